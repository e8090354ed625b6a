/-
  No cell of these rows narrows 'for every input' (looked for: loops, veiled, ifaces, maps, wideKeys, modest, calm, conditions, laid).
  DERIVED. THE GIVEN ROWS OF THIS SEAT. 9 by the template 'for every input the law returns true; each argument reads behind the call as it read before'; 0 by the template 'total and deterministic' (their statements: YtnnhffehboknnaaTotals.lean).
  GIVEN WITH THE SEED: the statements are not yours to turn. If you find one false, say at which input.
  Laid BY PROGRAM, IN A SANDBOX (cutbox-rows.mjs): the forced cells as the released guide's own fill.sh prints them over the translation 81e6f571ccdf0325… (all of the seat's roots in one cut). By AI agents, Wed Nov 11 2026. No macro, syntax, notation, axiom, sorry.
-/
import Derived.Test.YtnnhffehboknnaaChecked
import GoSem.Claim
import GoSem.ClaimJoined
import GoSem.ClaimMapViews
import Derived.JoinedTies
import Derived.KernelRfl
namespace Go.Proofs.Ytnnhffehboknnaa
/- THE CELL 'sum', in the pinned program and in every row, IS THE sha256 OF THE DUMP (.gsa) THAT YtnnhffehboknnaaProg.lean LOADS. Nothing in Lean hashes anything: it is a label: what it is worth is what the hold of that sum in a sandbox is worth. -/
noncomputable def Try.pinned : Pinned := { name := "ytnnhffehboknnaa", sum := "81e6f571ccdf032536489a1a19692f5b645170f46310e79b640e0b53161a81aa", checked := Try.checked }
namespace Rows
def none {H : Type} : Left H := { results := [], args := [] }

/-- 'laws.FnExactFadeGain': WHATEVER THE INPUT: true; the input reads as it did. -/
def fnExactFadeGainSpec : ChangeSpec := { name := "fnExactFadeGain", fn := fun _ => fun
  | [d1, d2, d3, d4] => { results := [.lit (.bool true)], args := [d1, d2, d3, d4] }
  | _ => none }
def fnExactFadeGainRow : OpenClaim := { program := "ytnnhffehboknnaa", sum := "81e6f571ccdf032536489a1a19692f5b645170f46310e79b640e0b53161a81aa", func := "loop.example/g00955/laws.FnExactFadeGain", spec := "fnExactFadeGain", apart := false }
def FnExactFadeGainSaid : Prop := fnExactFadeGainRow.holds Try.pinned (OpenSpec.ofChange fnExactFadeGainSpec)

/-- ITS FALSE NEIGHBOUR: 'it returns false'. Refute it at one input. -/
def fnExactFadeGainWrong : ChangeSpec := { name := "fnExactFadeGain", fn := fun _ => fun
  | [d1, d2, d3, d4] => { results := [.lit (.bool false)], args := [d1, d2, d3, d4] }
  | _ => none }
def FnExactFadeGainWrongFalsely : Prop := fnExactFadeGainRow.holds Try.pinned (OpenSpec.ofChange fnExactFadeGainWrong)

/-- 'laws.FnExactGainFactor': WHATEVER THE INPUT: true; the input reads as it did. -/
def fnExactGainFactorSpec : ChangeSpec := { name := "fnExactGainFactor", fn := fun _ => fun
  | [d] => { results := [.lit (.bool true)], args := [d] }
  | _ => none }
def fnExactGainFactorRow : OpenClaim := { program := "ytnnhffehboknnaa", sum := "81e6f571ccdf032536489a1a19692f5b645170f46310e79b640e0b53161a81aa", func := "loop.example/g00955/laws.FnExactGainFactor", spec := "fnExactGainFactor", apart := false }
def FnExactGainFactorSaid : Prop := fnExactGainFactorRow.holds Try.pinned (OpenSpec.ofChange fnExactGainFactorSpec)

/-- ITS FALSE NEIGHBOUR: 'it returns false'. Refute it at one input. -/
def fnExactGainFactorWrong : ChangeSpec := { name := "fnExactGainFactor", fn := fun _ => fun
  | [d] => { results := [.lit (.bool false)], args := [d] }
  | _ => none }
def FnExactGainFactorWrongFalsely : Prop := fnExactGainFactorRow.holds Try.pinned (OpenSpec.ofChange fnExactGainFactorWrong)

/-- 'laws.FnExactGainFor': WHATEVER THE INPUT: true; the input reads as it did. -/
def fnExactGainForSpec : ChangeSpec := { name := "fnExactGainFor", fn := fun _ => fun
  | [d] => { results := [.lit (.bool true)], args := [d] }
  | _ => none }
def fnExactGainForRow : OpenClaim := { program := "ytnnhffehboknnaa", sum := "81e6f571ccdf032536489a1a19692f5b645170f46310e79b640e0b53161a81aa", func := "loop.example/g00955/laws.FnExactGainFor", spec := "fnExactGainFor", apart := false }
def FnExactGainForSaid : Prop := fnExactGainForRow.holds Try.pinned (OpenSpec.ofChange fnExactGainForSpec)

/-- ITS FALSE NEIGHBOUR: 'it returns false'. Refute it at one input. -/
def fnExactGainForWrong : ChangeSpec := { name := "fnExactGainFor", fn := fun _ => fun
  | [d] => { results := [.lit (.bool false)], args := [d] }
  | _ => none }
def FnExactGainForWrongFalsely : Prop := fnExactGainForRow.holds Try.pinned (OpenSpec.ofChange fnExactGainForWrong)

/-- 'laws.FnExactPeakOf': WHATEVER THE INPUT: true; the input reads as it did. -/
def fnExactPeakOfSpec : ChangeSpec := { name := "fnExactPeakOf", fn := fun _ => fun
  | [d] => { results := [.lit (.bool true)], args := [d] }
  | _ => none }
def fnExactPeakOfRow : OpenClaim := { program := "ytnnhffehboknnaa", sum := "81e6f571ccdf032536489a1a19692f5b645170f46310e79b640e0b53161a81aa", func := "loop.example/g00955/laws.FnExactPeakOf", spec := "fnExactPeakOf", apart := false }
def FnExactPeakOfSaid : Prop := fnExactPeakOfRow.holds Try.pinned (OpenSpec.ofChange fnExactPeakOfSpec)

/-- ITS FALSE NEIGHBOUR: 'it returns false'. Refute it at one input. -/
def fnExactPeakOfWrong : ChangeSpec := { name := "fnExactPeakOf", fn := fun _ => fun
  | [d] => { results := [.lit (.bool false)], args := [d] }
  | _ => none }
def FnExactPeakOfWrongFalsely : Prop := fnExactPeakOfRow.holds Try.pinned (OpenSpec.ofChange fnExactPeakOfWrong)

/-- 'laws.FnExactHeadroomOf': WHATEVER THE INPUT: true; the input reads as it did. -/
def fnExactHeadroomOfSpec : ChangeSpec := { name := "fnExactHeadroomOf", fn := fun _ => fun
  | [d] => { results := [.lit (.bool true)], args := [d] }
  | _ => none }
def fnExactHeadroomOfRow : OpenClaim := { program := "ytnnhffehboknnaa", sum := "81e6f571ccdf032536489a1a19692f5b645170f46310e79b640e0b53161a81aa", func := "loop.example/g00955/laws.FnExactHeadroomOf", spec := "fnExactHeadroomOf", apart := false }
def FnExactHeadroomOfSaid : Prop := fnExactHeadroomOfRow.holds Try.pinned (OpenSpec.ofChange fnExactHeadroomOfSpec)

/-- ITS FALSE NEIGHBOUR: 'it returns false'. Refute it at one input. -/
def fnExactHeadroomOfWrong : ChangeSpec := { name := "fnExactHeadroomOf", fn := fun _ => fun
  | [d] => { results := [.lit (.bool false)], args := [d] }
  | _ => none }
def FnExactHeadroomOfWrongFalsely : Prop := fnExactHeadroomOfRow.holds Try.pinned (OpenSpec.ofChange fnExactHeadroomOfWrong)

/-- 'laws.FnExactApplyGain': WHATEVER THE INPUT: true; the input reads as it did. -/
def fnExactApplyGainSpec : ChangeSpec := { name := "fnExactApplyGain", fn := fun _ => fun
  | [d1, d2] => { results := [.lit (.bool true)], args := [d1, d2] }
  | _ => none }
def fnExactApplyGainRow : OpenClaim := { program := "ytnnhffehboknnaa", sum := "81e6f571ccdf032536489a1a19692f5b645170f46310e79b640e0b53161a81aa", func := "loop.example/g00955/laws.FnExactApplyGain", spec := "fnExactApplyGain", apart := false }
def FnExactApplyGainSaid : Prop := fnExactApplyGainRow.holds Try.pinned (OpenSpec.ofChange fnExactApplyGainSpec)

/-- ITS FALSE NEIGHBOUR: 'it returns false'. Refute it at one input. -/
def fnExactApplyGainWrong : ChangeSpec := { name := "fnExactApplyGain", fn := fun _ => fun
  | [d1, d2] => { results := [.lit (.bool false)], args := [d1, d2] }
  | _ => none }
def FnExactApplyGainWrongFalsely : Prop := fnExactApplyGainRow.holds Try.pinned (OpenSpec.ofChange fnExactApplyGainWrong)

/-- 'laws.FnExactLoudnessOf': WHATEVER THE INPUT: true; the input reads as it did. -/
def fnExactLoudnessOfSpec : ChangeSpec := { name := "fnExactLoudnessOf", fn := fun _ => fun
  | [d] => { results := [.lit (.bool true)], args := [d] }
  | _ => none }
def fnExactLoudnessOfRow : OpenClaim := { program := "ytnnhffehboknnaa", sum := "81e6f571ccdf032536489a1a19692f5b645170f46310e79b640e0b53161a81aa", func := "loop.example/g00955/laws.FnExactLoudnessOf", spec := "fnExactLoudnessOf", inPlace := ["math.sqrt"], apart := false }
def FnExactLoudnessOfSaid : Prop := fnExactLoudnessOfRow.holds Try.pinned (OpenSpec.ofChange fnExactLoudnessOfSpec)

/-- ITS FALSE NEIGHBOUR: 'it returns false'. Refute it at one input. -/
def fnExactLoudnessOfWrong : ChangeSpec := { name := "fnExactLoudnessOf", fn := fun _ => fun
  | [d] => { results := [.lit (.bool false)], args := [d] }
  | _ => none }
def FnExactLoudnessOfWrongFalsely : Prop := fnExactLoudnessOfRow.holds Try.pinned (OpenSpec.ofChange fnExactLoudnessOfWrong)

/-- 'laws.FnExactValidChannels': WHATEVER THE INPUT: true; the input reads as it did. -/
def fnExactValidChannelsSpec : ChangeSpec := { name := "fnExactValidChannels", fn := fun _ => fun
  | [d] => { results := [.lit (.bool true)], args := [d] }
  | _ => none }
def fnExactValidChannelsRow : OpenClaim := { program := "ytnnhffehboknnaa", sum := "81e6f571ccdf032536489a1a19692f5b645170f46310e79b640e0b53161a81aa", func := "loop.example/g00955/laws.FnExactValidChannels", spec := "fnExactValidChannels", apart := false }
def FnExactValidChannelsSaid : Prop := fnExactValidChannelsRow.holds Try.pinned (OpenSpec.ofChange fnExactValidChannelsSpec)

/-- ITS FALSE NEIGHBOUR: 'it returns false'. Refute it at one input. -/
def fnExactValidChannelsWrong : ChangeSpec := { name := "fnExactValidChannels", fn := fun _ => fun
  | [d] => { results := [.lit (.bool false)], args := [d] }
  | _ => none }
def FnExactValidChannelsWrongFalsely : Prop := fnExactValidChannelsRow.holds Try.pinned (OpenSpec.ofChange fnExactValidChannelsWrong)

/-- 'laws.FnExactAudibleChannels': WHATEVER THE INPUT: true; the input reads as it did. -/
def fnExactAudibleChannelsSpec : ChangeSpec := { name := "fnExactAudibleChannels", fn := fun _ => fun
  | [d] => { results := [.lit (.bool true)], args := [d] }
  | _ => none }
def fnExactAudibleChannelsRow : OpenClaim := { program := "ytnnhffehboknnaa", sum := "81e6f571ccdf032536489a1a19692f5b645170f46310e79b640e0b53161a81aa", func := "loop.example/g00955/laws.FnExactAudibleChannels", spec := "fnExactAudibleChannels", apart := false }
def FnExactAudibleChannelsSaid : Prop := fnExactAudibleChannelsRow.holds Try.pinned (OpenSpec.ofChange fnExactAudibleChannelsSpec)

/-- ITS FALSE NEIGHBOUR: 'it returns false'. Refute it at one input. -/
def fnExactAudibleChannelsWrong : ChangeSpec := { name := "fnExactAudibleChannels", fn := fun _ => fun
  | [d] => { results := [.lit (.bool false)], args := [d] }
  | _ => none }
def FnExactAudibleChannelsWrongFalsely : Prop := fnExactAudibleChannelsRow.holds Try.pinned (OpenSpec.ofChange fnExactAudibleChannelsWrong)

/- THE SECOND FORM. 'bulk': how many values and letters a reading holds, each counted each time it is reached (what is shared counts as often as it is met; a slice's spare places count too). A statement '..UptoSaid' is the law's where the arguments, and the package variables that the reading takes, are together of bulk at most 1048576: NARROWER than '..Said'. Prove '..Said' where nothing that the law and all that it calls make is longer than what came in: it says more and counts as full. Else prove '..UptoSaid'. A law counts once. -/
mutual
def uptoBulk {H : Type} : DataW H → Nat
  | .lit (.string bytes) => bytes.length + 1
  | .lit _ => 1
  | .nil => 1
  | .ptr d => uptoBulk d + 1
  | .slice elems spare => uptoBulkAll elems + uptoBulkAll spare + 1
  | .agg parts => uptoBulkAll parts + 1
  | .iface _ d => uptoBulk d + 1
  | .map entries => uptoBulkEntries entries + 1
  | .held _ => 1
def uptoBulkAll {H : Type} : List (DataW H) → Nat
  | [] => 0
  | d :: r => uptoBulk d + uptoBulkAll r
def uptoBulkEntries {H : Type} : List (Lit × DataW H) → Nat
  | [] => 0
  | x :: r => uptoBulkEntry x + uptoBulkEntries r
def uptoBulkEntry {H : Type} : Lit × DataW H → Nat
  | (.string bytes, d) => bytes.length + uptoBulk d + 1
  | (_, d) => uptoBulk d + 1
 end
def uptoSmall : (H : Type) → List (DataW H) → Bool := fun _ ds => decide (uptoBulkAll ds ≤ 1048576)
def OpenSpec.upto (s : _root_.Go.ChangeSpec) : _root_.Go.OpenSpec := { _root_.Go.OpenSpec.ofChange s with cond := some uptoSmall }

/-- 'laws.FnExactFadeGain', WHERE WHAT IT READS IS OF BULK AT MOST 1048576: true; the input reads as it did. -/
def fnExactFadeGainUptoRow : OpenClaim := { program := "ytnnhffehboknnaa", sum := "81e6f571ccdf032536489a1a19692f5b645170f46310e79b640e0b53161a81aa", func := "loop.example/g00955/laws.FnExactFadeGain", spec := "fnExactFadeGain", apart := false, narrowed := true }
def FnExactFadeGainUptoSaid : Prop := fnExactFadeGainUptoRow.holds Try.pinned (OpenSpec.upto fnExactFadeGainSpec)

/-- 'laws.FnExactGainFactor', WHERE WHAT IT READS IS OF BULK AT MOST 1048576: true; the input reads as it did. -/
def fnExactGainFactorUptoRow : OpenClaim := { program := "ytnnhffehboknnaa", sum := "81e6f571ccdf032536489a1a19692f5b645170f46310e79b640e0b53161a81aa", func := "loop.example/g00955/laws.FnExactGainFactor", spec := "fnExactGainFactor", apart := false, narrowed := true }
def FnExactGainFactorUptoSaid : Prop := fnExactGainFactorUptoRow.holds Try.pinned (OpenSpec.upto fnExactGainFactorSpec)

/-- 'laws.FnExactGainFor', WHERE WHAT IT READS IS OF BULK AT MOST 1048576: true; the input reads as it did. -/
def fnExactGainForUptoRow : OpenClaim := { program := "ytnnhffehboknnaa", sum := "81e6f571ccdf032536489a1a19692f5b645170f46310e79b640e0b53161a81aa", func := "loop.example/g00955/laws.FnExactGainFor", spec := "fnExactGainFor", apart := false, narrowed := true }
def FnExactGainForUptoSaid : Prop := fnExactGainForUptoRow.holds Try.pinned (OpenSpec.upto fnExactGainForSpec)

/-- 'laws.FnExactPeakOf', WHERE WHAT IT READS IS OF BULK AT MOST 1048576: true; the input reads as it did. -/
def fnExactPeakOfUptoRow : OpenClaim := { program := "ytnnhffehboknnaa", sum := "81e6f571ccdf032536489a1a19692f5b645170f46310e79b640e0b53161a81aa", func := "loop.example/g00955/laws.FnExactPeakOf", spec := "fnExactPeakOf", apart := false, narrowed := true }
def FnExactPeakOfUptoSaid : Prop := fnExactPeakOfUptoRow.holds Try.pinned (OpenSpec.upto fnExactPeakOfSpec)

/-- 'laws.FnExactHeadroomOf', WHERE WHAT IT READS IS OF BULK AT MOST 1048576: true; the input reads as it did. -/
def fnExactHeadroomOfUptoRow : OpenClaim := { program := "ytnnhffehboknnaa", sum := "81e6f571ccdf032536489a1a19692f5b645170f46310e79b640e0b53161a81aa", func := "loop.example/g00955/laws.FnExactHeadroomOf", spec := "fnExactHeadroomOf", apart := false, narrowed := true }
def FnExactHeadroomOfUptoSaid : Prop := fnExactHeadroomOfUptoRow.holds Try.pinned (OpenSpec.upto fnExactHeadroomOfSpec)

/-- 'laws.FnExactApplyGain', WHERE WHAT IT READS IS OF BULK AT MOST 1048576: true; the input reads as it did. -/
def fnExactApplyGainUptoRow : OpenClaim := { program := "ytnnhffehboknnaa", sum := "81e6f571ccdf032536489a1a19692f5b645170f46310e79b640e0b53161a81aa", func := "loop.example/g00955/laws.FnExactApplyGain", spec := "fnExactApplyGain", apart := false, narrowed := true }
def FnExactApplyGainUptoSaid : Prop := fnExactApplyGainUptoRow.holds Try.pinned (OpenSpec.upto fnExactApplyGainSpec)

/-- 'laws.FnExactLoudnessOf', WHERE WHAT IT READS IS OF BULK AT MOST 1048576: true; the input reads as it did. -/
def fnExactLoudnessOfUptoRow : OpenClaim := { program := "ytnnhffehboknnaa", sum := "81e6f571ccdf032536489a1a19692f5b645170f46310e79b640e0b53161a81aa", func := "loop.example/g00955/laws.FnExactLoudnessOf", spec := "fnExactLoudnessOf", inPlace := ["math.sqrt"], apart := false, narrowed := true }
def FnExactLoudnessOfUptoSaid : Prop := fnExactLoudnessOfUptoRow.holds Try.pinned (OpenSpec.upto fnExactLoudnessOfSpec)

/-- 'laws.FnExactValidChannels', WHERE WHAT IT READS IS OF BULK AT MOST 1048576: true; the input reads as it did. -/
def fnExactValidChannelsUptoRow : OpenClaim := { program := "ytnnhffehboknnaa", sum := "81e6f571ccdf032536489a1a19692f5b645170f46310e79b640e0b53161a81aa", func := "loop.example/g00955/laws.FnExactValidChannels", spec := "fnExactValidChannels", apart := false, narrowed := true }
def FnExactValidChannelsUptoSaid : Prop := fnExactValidChannelsUptoRow.holds Try.pinned (OpenSpec.upto fnExactValidChannelsSpec)

/-- 'laws.FnExactAudibleChannels', WHERE WHAT IT READS IS OF BULK AT MOST 1048576: true; the input reads as it did. -/
def fnExactAudibleChannelsUptoRow : OpenClaim := { program := "ytnnhffehboknnaa", sum := "81e6f571ccdf032536489a1a19692f5b645170f46310e79b640e0b53161a81aa", func := "loop.example/g00955/laws.FnExactAudibleChannels", spec := "fnExactAudibleChannels", apart := false, narrowed := true }
def FnExactAudibleChannelsUptoSaid : Prop := fnExactAudibleChannelsUptoRow.holds Try.pinned (OpenSpec.upto fnExactAudibleChannelsSpec)

end Rows
end Go.Proofs.Ytnnhffehboknnaa
