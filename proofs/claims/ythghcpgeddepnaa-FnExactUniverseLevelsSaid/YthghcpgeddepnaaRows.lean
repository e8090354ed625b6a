/-
  No cell of these rows narrows 'for every input' (looked for: loops, veiled, ifaces, maps, wideKeys, modest, calm, conditions, laid).
  DERIVED. THE GIVEN ROWS OF THIS SEAT. 11 by the template 'for every input the law returns true; each argument reads behind the call as it read before'; 0 by the template 'total and deterministic' (their statements: YthghcpgeddepnaaTotals.lean).
  GIVEN WITH THE SEED: the statements are not yours to turn. If you find one false, say at which input.
  Laid BY PROGRAM, IN A SANDBOX (cutbox-rows.mjs): the forced cells as the released guide's own fill.sh prints them over the translation 1f53ff0b0418d9bd… (all of the seat's roots in one cut). By AI agents, Wed Nov 11 2026. No macro, syntax, notation, axiom, sorry.
-/
import Derived.Test.YthghcpgeddepnaaChecked
import GoSem.Claim
import GoSem.ClaimJoined
import GoSem.ClaimMapViews
import Derived.JoinedTies
import Derived.KernelRfl
namespace Go.Proofs.Ythghcpgeddepnaa
/- THE CELL 'sum', in the pinned program and in every row, IS THE sha256 OF THE DUMP (.gsa) THAT YthghcpgeddepnaaProg.lean LOADS. Nothing in Lean hashes anything: it is a label: what it is worth is what the hold of that sum in a sandbox is worth. -/
noncomputable def Try.pinned : Pinned := { name := "ythghcpgeddepnaa", sum := "1f53ff0b0418d9bd707e2f2190bc4872fd93cd0fa8ca35b1513fa97bdbdfb896", checked := Try.checked }
namespace Rows
def none {H : Type} : Left H := { results := [], args := [] }

/-- 'laws.FnExactValidFixture': WHATEVER THE INPUT: true; the input reads as it did. -/
def fnExactValidFixtureSpec : ChangeSpec := { name := "fnExactValidFixture", fn := fun _ => fun
  | [d] => { results := [.lit (.bool true)], args := [d] }
  | _ => none }
def fnExactValidFixtureRow : OpenClaim := { program := "ythghcpgeddepnaa", sum := "1f53ff0b0418d9bd707e2f2190bc4872fd93cd0fa8ca35b1513fa97bdbdfb896", func := "loop.example/g00955/laws.FnExactValidFixture", spec := "fnExactValidFixture", apart := false }
def FnExactValidFixtureSaid : Prop := fnExactValidFixtureRow.holds Try.pinned (OpenSpec.ofChange fnExactValidFixtureSpec)

/-- ITS FALSE NEIGHBOUR: 'it returns false'. Refute it at one input. -/
def fnExactValidFixtureWrong : ChangeSpec := { name := "fnExactValidFixture", fn := fun _ => fun
  | [d] => { results := [.lit (.bool false)], args := [d] }
  | _ => none }
def FnExactValidFixtureWrongFalsely : Prop := fnExactValidFixtureRow.holds Try.pinned (OpenSpec.ofChange fnExactValidFixtureWrong)

/-- 'laws.FnExactSharedAddresses': WHATEVER THE INPUT: true; the input reads as it did. -/
def fnExactSharedAddressesSpec : ChangeSpec := { name := "fnExactSharedAddresses", fn := fun _ => fun
  | [d1, d2] => { results := [.lit (.bool true)], args := [d1, d2] }
  | _ => none }
def fnExactSharedAddressesRow : OpenClaim := { program := "ythghcpgeddepnaa", sum := "1f53ff0b0418d9bd707e2f2190bc4872fd93cd0fa8ca35b1513fa97bdbdfb896", func := "loop.example/g00955/laws.FnExactSharedAddresses", spec := "fnExactSharedAddresses", apart := false }
def FnExactSharedAddressesSaid : Prop := fnExactSharedAddressesRow.holds Try.pinned (OpenSpec.ofChange fnExactSharedAddressesSpec)

/-- ITS FALSE NEIGHBOUR: 'it returns false'. Refute it at one input. -/
def fnExactSharedAddressesWrong : ChangeSpec := { name := "fnExactSharedAddresses", fn := fun _ => fun
  | [d1, d2] => { results := [.lit (.bool false)], args := [d1, d2] }
  | _ => none }
def FnExactSharedAddressesWrongFalsely : Prop := fnExactSharedAddressesRow.holds Try.pinned (OpenSpec.ofChange fnExactSharedAddressesWrong)

/-- 'laws.FnExactDimLevels': WHATEVER THE INPUT: true; the input reads as it did. -/
def fnExactDimLevelsSpec : ChangeSpec := { name := "fnExactDimLevels", fn := fun _ => fun
  | [d1, d2] => { results := [.lit (.bool true)], args := [d1, d2] }
  | _ => none }
def fnExactDimLevelsRow : OpenClaim := { program := "ythghcpgeddepnaa", sum := "1f53ff0b0418d9bd707e2f2190bc4872fd93cd0fa8ca35b1513fa97bdbdfb896", func := "loop.example/g00955/laws.FnExactDimLevels", spec := "fnExactDimLevels", unfollowed := true, recurses := true, apart := false }
def FnExactDimLevelsSaid : Prop := fnExactDimLevelsRow.holds Try.pinned (OpenSpec.ofChange fnExactDimLevelsSpec)

/-- ITS FALSE NEIGHBOUR: 'it returns false'. Refute it at one input. -/
def fnExactDimLevelsWrong : ChangeSpec := { name := "fnExactDimLevels", fn := fun _ => fun
  | [d1, d2] => { results := [.lit (.bool false)], args := [d1, d2] }
  | _ => none }
def FnExactDimLevelsWrongFalsely : Prop := fnExactDimLevelsRow.holds Try.pinned (OpenSpec.ofChange fnExactDimLevelsWrong)

/-- 'laws.FnExactFadeLevels': WHATEVER THE INPUT: true; the input reads as it did. -/
def fnExactFadeLevelsSpec : ChangeSpec := { name := "fnExactFadeLevels", fn := fun _ => fun
  | [d1, d2, d3] => { results := [.lit (.bool true)], args := [d1, d2, d3] }
  | _ => none }
def fnExactFadeLevelsRow : OpenClaim := { program := "ythghcpgeddepnaa", sum := "1f53ff0b0418d9bd707e2f2190bc4872fd93cd0fa8ca35b1513fa97bdbdfb896", func := "loop.example/g00955/laws.FnExactFadeLevels", spec := "fnExactFadeLevels", unfollowed := true, recurses := true, apart := false }
def FnExactFadeLevelsSaid : Prop := fnExactFadeLevelsRow.holds Try.pinned (OpenSpec.ofChange fnExactFadeLevelsSpec)

/-- ITS FALSE NEIGHBOUR: 'it returns false'. Refute it at one input. -/
def fnExactFadeLevelsWrong : ChangeSpec := { name := "fnExactFadeLevels", fn := fun _ => fun
  | [d1, d2, d3] => { results := [.lit (.bool false)], args := [d1, d2, d3] }
  | _ => none }
def FnExactFadeLevelsWrongFalsely : Prop := fnExactFadeLevelsRow.holds Try.pinned (OpenSpec.ofChange fnExactFadeLevelsWrong)

/-- 'laws.FnExactPatchAll': WHATEVER THE INPUT: true; the input reads as it did. -/
def fnExactPatchAllSpec : ChangeSpec := { name := "fnExactPatchAll", fn := fun _ => fun
  | [d] => { results := [.lit (.bool true)], args := [d] }
  | _ => none }
def fnExactPatchAllRow : OpenClaim := { program := "ythghcpgeddepnaa", sum := "1f53ff0b0418d9bd707e2f2190bc4872fd93cd0fa8ca35b1513fa97bdbdfb896", func := "loop.example/g00955/laws.FnExactPatchAll", spec := "fnExactPatchAll", unfollowed := true, recurses := true, apart := false }
def FnExactPatchAllSaid : Prop := fnExactPatchAllRow.holds Try.pinned (OpenSpec.ofChange fnExactPatchAllSpec)

/-- ITS FALSE NEIGHBOUR: 'it returns false'. Refute it at one input. -/
def fnExactPatchAllWrong : ChangeSpec := { name := "fnExactPatchAll", fn := fun _ => fun
  | [d] => { results := [.lit (.bool false)], args := [d] }
  | _ => none }
def FnExactPatchAllWrongFalsely : Prop := fnExactPatchAllRow.holds Try.pinned (OpenSpec.ofChange fnExactPatchAllWrong)

/-- 'laws.FnExactValidFixtures': WHATEVER THE INPUT: true; the input reads as it did. -/
def fnExactValidFixturesSpec : ChangeSpec := { name := "fnExactValidFixtures", fn := fun _ => fun
  | [d] => { results := [.lit (.bool true)], args := [d] }
  | _ => none }
def fnExactValidFixturesRow : OpenClaim := { program := "ythghcpgeddepnaa", sum := "1f53ff0b0418d9bd707e2f2190bc4872fd93cd0fa8ca35b1513fa97bdbdfb896", func := "loop.example/g00955/laws.FnExactValidFixtures", spec := "fnExactValidFixtures", apart := false }
def FnExactValidFixturesSaid : Prop := fnExactValidFixturesRow.holds Try.pinned (OpenSpec.ofChange fnExactValidFixturesSpec)

/-- ITS FALSE NEIGHBOUR: 'it returns false'. Refute it at one input. -/
def fnExactValidFixturesWrong : ChangeSpec := { name := "fnExactValidFixtures", fn := fun _ => fun
  | [d] => { results := [.lit (.bool false)], args := [d] }
  | _ => none }
def FnExactValidFixturesWrongFalsely : Prop := fnExactValidFixturesRow.holds Try.pinned (OpenSpec.ofChange fnExactValidFixturesWrong)

/-- 'laws.FnExactFixtureAt': WHATEVER THE INPUT: true; the input reads as it did. -/
def fnExactFixtureAtSpec : ChangeSpec := { name := "fnExactFixtureAt", fn := fun _ => fun
  | [d1, d2, d3] => { results := [.lit (.bool true)], args := [d1, d2, d3] }
  | _ => none }
def fnExactFixtureAtRow : OpenClaim := { program := "ythghcpgeddepnaa", sum := "1f53ff0b0418d9bd707e2f2190bc4872fd93cd0fa8ca35b1513fa97bdbdfb896", func := "loop.example/g00955/laws.FnExactFixtureAt", spec := "fnExactFixtureAt", apart := false }
def FnExactFixtureAtSaid : Prop := fnExactFixtureAtRow.holds Try.pinned (OpenSpec.ofChange fnExactFixtureAtSpec)

/-- ITS FALSE NEIGHBOUR: 'it returns false'. Refute it at one input. -/
def fnExactFixtureAtWrong : ChangeSpec := { name := "fnExactFixtureAt", fn := fun _ => fun
  | [d1, d2, d3] => { results := [.lit (.bool false)], args := [d1, d2, d3] }
  | _ => none }
def FnExactFixtureAtWrongFalsely : Prop := fnExactFixtureAtRow.holds Try.pinned (OpenSpec.ofChange fnExactFixtureAtWrong)

/-- 'laws.FnExactFreeAddress': WHATEVER THE INPUT: true; the input reads as it did. -/
def fnExactFreeAddressSpec : ChangeSpec := { name := "fnExactFreeAddress", fn := fun _ => fun
  | [d1, d2, d3] => { results := [.lit (.bool true)], args := [d1, d2, d3] }
  | _ => none }
def fnExactFreeAddressRow : OpenClaim := { program := "ythghcpgeddepnaa", sum := "1f53ff0b0418d9bd707e2f2190bc4872fd93cd0fa8ca35b1513fa97bdbdfb896", func := "loop.example/g00955/laws.FnExactFreeAddress", spec := "fnExactFreeAddress", unfollowed := true, recurses := true, apart := false }
def FnExactFreeAddressSaid : Prop := fnExactFreeAddressRow.holds Try.pinned (OpenSpec.ofChange fnExactFreeAddressSpec)

/-- ITS FALSE NEIGHBOUR: 'it returns false'. Refute it at one input. -/
def fnExactFreeAddressWrong : ChangeSpec := { name := "fnExactFreeAddress", fn := fun _ => fun
  | [d1, d2, d3] => { results := [.lit (.bool false)], args := [d1, d2, d3] }
  | _ => none }
def FnExactFreeAddressWrongFalsely : Prop := fnExactFreeAddressRow.holds Try.pinned (OpenSpec.ofChange fnExactFreeAddressWrong)

/-- 'laws.FnExactDropFixture': WHATEVER THE INPUT: true; the input reads as it did. -/
def fnExactDropFixtureSpec : ChangeSpec := { name := "fnExactDropFixture", fn := fun _ => fun
  | [d1, d2] => { results := [.lit (.bool true)], args := [d1, d2] }
  | _ => none }
def fnExactDropFixtureRow : OpenClaim := { program := "ythghcpgeddepnaa", sum := "1f53ff0b0418d9bd707e2f2190bc4872fd93cd0fa8ca35b1513fa97bdbdfb896", func := "loop.example/g00955/laws.FnExactDropFixture", spec := "fnExactDropFixture", unfollowed := true, recurses := true, apart := false }
def FnExactDropFixtureSaid : Prop := fnExactDropFixtureRow.holds Try.pinned (OpenSpec.ofChange fnExactDropFixtureSpec)

/-- ITS FALSE NEIGHBOUR: 'it returns false'. Refute it at one input. -/
def fnExactDropFixtureWrong : ChangeSpec := { name := "fnExactDropFixture", fn := fun _ => fun
  | [d1, d2] => { results := [.lit (.bool false)], args := [d1, d2] }
  | _ => none }
def FnExactDropFixtureWrongFalsely : Prop := fnExactDropFixtureRow.holds Try.pinned (OpenSpec.ofChange fnExactDropFixtureWrong)

/-- 'laws.FnExactUniverseLevels': WHATEVER THE INPUT: true; the input reads as it did. -/
def fnExactUniverseLevelsSpec : ChangeSpec := { name := "fnExactUniverseLevels", fn := fun _ => fun
  | [d1, d2, d3] => { results := [.lit (.bool true)], args := [d1, d2, d3] }
  | _ => none }
def fnExactUniverseLevelsRow : OpenClaim := { program := "ythghcpgeddepnaa", sum := "1f53ff0b0418d9bd707e2f2190bc4872fd93cd0fa8ca35b1513fa97bdbdfb896", func := "loop.example/g00955/laws.FnExactUniverseLevels", spec := "fnExactUniverseLevels", unfollowed := true, recurses := true, apart := false }
def FnExactUniverseLevelsSaid : Prop := fnExactUniverseLevelsRow.holds Try.pinned (OpenSpec.ofChange fnExactUniverseLevelsSpec)

/-- ITS FALSE NEIGHBOUR: 'it returns false'. Refute it at one input. -/
def fnExactUniverseLevelsWrong : ChangeSpec := { name := "fnExactUniverseLevels", fn := fun _ => fun
  | [d1, d2, d3] => { results := [.lit (.bool false)], args := [d1, d2, d3] }
  | _ => none }
def FnExactUniverseLevelsWrongFalsely : Prop := fnExactUniverseLevelsRow.holds Try.pinned (OpenSpec.ofChange fnExactUniverseLevelsWrong)

/-- 'laws.FnExactAddFixture': WHATEVER THE INPUT: true; the input reads as it did. -/
def fnExactAddFixtureSpec : ChangeSpec := { name := "fnExactAddFixture", fn := fun _ => fun
  | [d1, d2] => { results := [.lit (.bool true)], args := [d1, d2] }
  | _ => none }
def fnExactAddFixtureRow : OpenClaim := { program := "ythghcpgeddepnaa", sum := "1f53ff0b0418d9bd707e2f2190bc4872fd93cd0fa8ca35b1513fa97bdbdfb896", func := "loop.example/g00955/laws.FnExactAddFixture", spec := "fnExactAddFixture", inPlace := ["slices.overlaps[loop.example/g00955/impl.Fixture]"], unfollowed := true, recurses := true, apart := false }
def FnExactAddFixtureSaid : Prop := fnExactAddFixtureRow.holds Try.pinned (OpenSpec.ofChange fnExactAddFixtureSpec)

/-- ITS FALSE NEIGHBOUR: 'it returns false'. Refute it at one input. -/
def fnExactAddFixtureWrong : ChangeSpec := { name := "fnExactAddFixture", fn := fun _ => fun
  | [d1, d2] => { results := [.lit (.bool false)], args := [d1, d2] }
  | _ => none }
def FnExactAddFixtureWrongFalsely : Prop := fnExactAddFixtureRow.holds Try.pinned (OpenSpec.ofChange fnExactAddFixtureWrong)

/- THE SECOND FORM. 'bulk': how many values and letters a reading holds, each counted each time it is reached (what is shared counts as often as it is met; a slice's spare places count too). A statement '..UptoSaid' is the law's where the arguments, and the package variables that the reading takes, are together of bulk at most 1048576: NARROWER than '..Said'. Prove '..Said' where nothing that the law and all that it calls make is longer than what came in: it says more and counts as full. Else prove '..UptoSaid'. A law counts once. -/
mutual
def uptoBulk {H : Type} : DataW H → Nat
  | .lit (.string bytes) => bytes.length + 1
  | .lit _ => 1
  | .nil => 1
  | .ptr d => uptoBulk d + 1
  | .slice elems spare => uptoBulkAll elems + uptoBulkAll spare + 1
  | .agg parts => uptoBulkAll parts + 1
  | .iface _ d => uptoBulk d + 1
  | .map entries => uptoBulkEntries entries + 1
  | .held _ => 1
def uptoBulkAll {H : Type} : List (DataW H) → Nat
  | [] => 0
  | d :: r => uptoBulk d + uptoBulkAll r
def uptoBulkEntries {H : Type} : List (Lit × DataW H) → Nat
  | [] => 0
  | x :: r => uptoBulkEntry x + uptoBulkEntries r
def uptoBulkEntry {H : Type} : Lit × DataW H → Nat
  | (.string bytes, d) => bytes.length + uptoBulk d + 1
  | (_, d) => uptoBulk d + 1
 end
def uptoSmall : (H : Type) → List (DataW H) → Bool := fun _ ds => decide (uptoBulkAll ds ≤ 1048576)
def OpenSpec.upto (s : _root_.Go.ChangeSpec) : _root_.Go.OpenSpec := { _root_.Go.OpenSpec.ofChange s with cond := some uptoSmall }

/-- 'laws.FnExactValidFixture', WHERE WHAT IT READS IS OF BULK AT MOST 1048576: true; the input reads as it did. -/
def fnExactValidFixtureUptoRow : OpenClaim := { program := "ythghcpgeddepnaa", sum := "1f53ff0b0418d9bd707e2f2190bc4872fd93cd0fa8ca35b1513fa97bdbdfb896", func := "loop.example/g00955/laws.FnExactValidFixture", spec := "fnExactValidFixture", apart := false, narrowed := true }
def FnExactValidFixtureUptoSaid : Prop := fnExactValidFixtureUptoRow.holds Try.pinned (OpenSpec.upto fnExactValidFixtureSpec)

/-- 'laws.FnExactSharedAddresses', WHERE WHAT IT READS IS OF BULK AT MOST 1048576: true; the input reads as it did. -/
def fnExactSharedAddressesUptoRow : OpenClaim := { program := "ythghcpgeddepnaa", sum := "1f53ff0b0418d9bd707e2f2190bc4872fd93cd0fa8ca35b1513fa97bdbdfb896", func := "loop.example/g00955/laws.FnExactSharedAddresses", spec := "fnExactSharedAddresses", apart := false, narrowed := true }
def FnExactSharedAddressesUptoSaid : Prop := fnExactSharedAddressesUptoRow.holds Try.pinned (OpenSpec.upto fnExactSharedAddressesSpec)

/-- 'laws.FnExactDimLevels', WHERE WHAT IT READS IS OF BULK AT MOST 1048576: true; the input reads as it did. -/
def fnExactDimLevelsUptoRow : OpenClaim := { program := "ythghcpgeddepnaa", sum := "1f53ff0b0418d9bd707e2f2190bc4872fd93cd0fa8ca35b1513fa97bdbdfb896", func := "loop.example/g00955/laws.FnExactDimLevels", spec := "fnExactDimLevels", unfollowed := true, recurses := true, apart := false, narrowed := true }
def FnExactDimLevelsUptoSaid : Prop := fnExactDimLevelsUptoRow.holds Try.pinned (OpenSpec.upto fnExactDimLevelsSpec)

/-- 'laws.FnExactFadeLevels', WHERE WHAT IT READS IS OF BULK AT MOST 1048576: true; the input reads as it did. -/
def fnExactFadeLevelsUptoRow : OpenClaim := { program := "ythghcpgeddepnaa", sum := "1f53ff0b0418d9bd707e2f2190bc4872fd93cd0fa8ca35b1513fa97bdbdfb896", func := "loop.example/g00955/laws.FnExactFadeLevels", spec := "fnExactFadeLevels", unfollowed := true, recurses := true, apart := false, narrowed := true }
def FnExactFadeLevelsUptoSaid : Prop := fnExactFadeLevelsUptoRow.holds Try.pinned (OpenSpec.upto fnExactFadeLevelsSpec)

/-- 'laws.FnExactPatchAll', WHERE WHAT IT READS IS OF BULK AT MOST 1048576: true; the input reads as it did. -/
def fnExactPatchAllUptoRow : OpenClaim := { program := "ythghcpgeddepnaa", sum := "1f53ff0b0418d9bd707e2f2190bc4872fd93cd0fa8ca35b1513fa97bdbdfb896", func := "loop.example/g00955/laws.FnExactPatchAll", spec := "fnExactPatchAll", unfollowed := true, recurses := true, apart := false, narrowed := true }
def FnExactPatchAllUptoSaid : Prop := fnExactPatchAllUptoRow.holds Try.pinned (OpenSpec.upto fnExactPatchAllSpec)

/-- 'laws.FnExactValidFixtures', WHERE WHAT IT READS IS OF BULK AT MOST 1048576: true; the input reads as it did. -/
def fnExactValidFixturesUptoRow : OpenClaim := { program := "ythghcpgeddepnaa", sum := "1f53ff0b0418d9bd707e2f2190bc4872fd93cd0fa8ca35b1513fa97bdbdfb896", func := "loop.example/g00955/laws.FnExactValidFixtures", spec := "fnExactValidFixtures", apart := false, narrowed := true }
def FnExactValidFixturesUptoSaid : Prop := fnExactValidFixturesUptoRow.holds Try.pinned (OpenSpec.upto fnExactValidFixturesSpec)

/-- 'laws.FnExactFixtureAt', WHERE WHAT IT READS IS OF BULK AT MOST 1048576: true; the input reads as it did. -/
def fnExactFixtureAtUptoRow : OpenClaim := { program := "ythghcpgeddepnaa", sum := "1f53ff0b0418d9bd707e2f2190bc4872fd93cd0fa8ca35b1513fa97bdbdfb896", func := "loop.example/g00955/laws.FnExactFixtureAt", spec := "fnExactFixtureAt", apart := false, narrowed := true }
def FnExactFixtureAtUptoSaid : Prop := fnExactFixtureAtUptoRow.holds Try.pinned (OpenSpec.upto fnExactFixtureAtSpec)

/-- 'laws.FnExactFreeAddress', WHERE WHAT IT READS IS OF BULK AT MOST 1048576: true; the input reads as it did. -/
def fnExactFreeAddressUptoRow : OpenClaim := { program := "ythghcpgeddepnaa", sum := "1f53ff0b0418d9bd707e2f2190bc4872fd93cd0fa8ca35b1513fa97bdbdfb896", func := "loop.example/g00955/laws.FnExactFreeAddress", spec := "fnExactFreeAddress", unfollowed := true, recurses := true, apart := false, narrowed := true }
def FnExactFreeAddressUptoSaid : Prop := fnExactFreeAddressUptoRow.holds Try.pinned (OpenSpec.upto fnExactFreeAddressSpec)

/-- 'laws.FnExactDropFixture', WHERE WHAT IT READS IS OF BULK AT MOST 1048576: true; the input reads as it did. -/
def fnExactDropFixtureUptoRow : OpenClaim := { program := "ythghcpgeddepnaa", sum := "1f53ff0b0418d9bd707e2f2190bc4872fd93cd0fa8ca35b1513fa97bdbdfb896", func := "loop.example/g00955/laws.FnExactDropFixture", spec := "fnExactDropFixture", unfollowed := true, recurses := true, apart := false, narrowed := true }
def FnExactDropFixtureUptoSaid : Prop := fnExactDropFixtureUptoRow.holds Try.pinned (OpenSpec.upto fnExactDropFixtureSpec)

/-- 'laws.FnExactUniverseLevels', WHERE WHAT IT READS IS OF BULK AT MOST 1048576: true; the input reads as it did. -/
def fnExactUniverseLevelsUptoRow : OpenClaim := { program := "ythghcpgeddepnaa", sum := "1f53ff0b0418d9bd707e2f2190bc4872fd93cd0fa8ca35b1513fa97bdbdfb896", func := "loop.example/g00955/laws.FnExactUniverseLevels", spec := "fnExactUniverseLevels", unfollowed := true, recurses := true, apart := false, narrowed := true }
def FnExactUniverseLevelsUptoSaid : Prop := fnExactUniverseLevelsUptoRow.holds Try.pinned (OpenSpec.upto fnExactUniverseLevelsSpec)

/-- 'laws.FnExactAddFixture', WHERE WHAT IT READS IS OF BULK AT MOST 1048576: true; the input reads as it did. -/
def fnExactAddFixtureUptoRow : OpenClaim := { program := "ythghcpgeddepnaa", sum := "1f53ff0b0418d9bd707e2f2190bc4872fd93cd0fa8ca35b1513fa97bdbdfb896", func := "loop.example/g00955/laws.FnExactAddFixture", spec := "fnExactAddFixture", inPlace := ["slices.overlaps[loop.example/g00955/impl.Fixture]"], unfollowed := true, recurses := true, apart := false, narrowed := true }
def FnExactAddFixtureUptoSaid : Prop := fnExactAddFixtureUptoRow.holds Try.pinned (OpenSpec.upto fnExactAddFixtureSpec)

end Rows
end Go.Proofs.Ythghcpgeddepnaa
