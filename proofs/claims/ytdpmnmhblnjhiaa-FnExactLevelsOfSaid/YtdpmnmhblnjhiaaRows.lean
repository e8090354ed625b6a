/-
  No cell of these rows narrows 'for every input' (looked for: loops, veiled, ifaces, maps, wideKeys, modest, calm, conditions, laid).
  DERIVED. THE GIVEN ROWS OF THIS SEAT. 11 by the template 'for every input the law returns true; each argument reads behind the call as it read before'; 0 by the template 'total and deterministic' (their statements: YtdpmnmhblnjhiaaTotals.lean).
  GIVEN WITH THE SEED: the statements are not yours to turn. If you find one false, say at which input.
  Laid BY PROGRAM, IN A SANDBOX (cutbox-rows.mjs): the forced cells as the released guide's own fill.sh prints them over the translation 8f10665e9ab9fbea… (all of the seat's roots in one cut). By AI agents, Wed Nov 11 2026. No macro, syntax, notation, axiom, sorry.
-/
import Derived.Test.YtdpmnmhblnjhiaaChecked
import GoSem.Claim
import GoSem.ClaimJoined
import GoSem.ClaimMapViews
import Derived.JoinedTies
import Derived.KernelRfl
namespace Go.Proofs.Ytdpmnmhblnjhiaa
/- THE CELL 'sum', in the pinned program and in every row, IS THE sha256 OF THE DUMP (.gsa) THAT YtdpmnmhblnjhiaaProg.lean LOADS. Nothing in Lean hashes anything: it is a label: what it is worth is what the hold of that sum in a sandbox is worth. -/
noncomputable def Try.pinned : Pinned := { name := "ytdpmnmhblnjhiaa", sum := "8f10665e9ab9fbeac4fa2920be5c17fea95a015ad299fe05ce2b2c5dd31802e1", checked := Try.checked }
namespace Rows
def none {H : Type} : Left H := { results := [], args := [] }

/-- 'laws.FnExactSamePlayer': WHATEVER THE INPUT: true; the input reads as it did. -/
def fnExactSamePlayerSpec : ChangeSpec := { name := "fnExactSamePlayer", fn := fun _ => fun
  | [d1, d2] => { results := [.lit (.bool true)], args := [d1, d2] }
  | _ => none }
def fnExactSamePlayerRow : OpenClaim := { program := "ytdpmnmhblnjhiaa", sum := "8f10665e9ab9fbeac4fa2920be5c17fea95a015ad299fe05ce2b2c5dd31802e1", func := "loop.example/g00955/laws.FnExactSamePlayer", spec := "fnExactSamePlayer", apart := false }
def FnExactSamePlayerSaid : Prop := fnExactSamePlayerRow.holds Try.pinned (OpenSpec.ofChange fnExactSamePlayerSpec)

/-- ITS FALSE NEIGHBOUR: 'it returns false'. Refute it at one input. -/
def fnExactSamePlayerWrong : ChangeSpec := { name := "fnExactSamePlayer", fn := fun _ => fun
  | [d1, d2] => { results := [.lit (.bool false)], args := [d1, d2] }
  | _ => none }
def FnExactSamePlayerWrongFalsely : Prop := fnExactSamePlayerRow.holds Try.pinned (OpenSpec.ofChange fnExactSamePlayerWrong)

/-- 'laws.FnExactValidPlayer': WHATEVER THE INPUT: true; the input reads as it did. -/
def fnExactValidPlayerSpec : ChangeSpec := { name := "fnExactValidPlayer", fn := fun _ => fun
  | [d] => { results := [.lit (.bool true)], args := [d] }
  | _ => none }
def fnExactValidPlayerRow : OpenClaim := { program := "ytdpmnmhblnjhiaa", sum := "8f10665e9ab9fbeac4fa2920be5c17fea95a015ad299fe05ce2b2c5dd31802e1", func := "loop.example/g00955/laws.FnExactValidPlayer", spec := "fnExactValidPlayer", unfollowed := true, recurses := true, apart := false }
def FnExactValidPlayerSaid : Prop := fnExactValidPlayerRow.holds Try.pinned (OpenSpec.ofChange fnExactValidPlayerSpec)

/-- ITS FALSE NEIGHBOUR: 'it returns false'. Refute it at one input. -/
def fnExactValidPlayerWrong : ChangeSpec := { name := "fnExactValidPlayer", fn := fun _ => fun
  | [d] => { results := [.lit (.bool false)], args := [d] }
  | _ => none }
def FnExactValidPlayerWrongFalsely : Prop := fnExactValidPlayerRow.holds Try.pinned (OpenSpec.ofChange fnExactValidPlayerWrong)

/-- 'laws.FnExactRemainingTime': WHATEVER THE INPUT: true; the input reads as it did. -/
def fnExactRemainingTimeSpec : ChangeSpec := { name := "fnExactRemainingTime", fn := fun _ => fun
  | [d] => { results := [.lit (.bool true)], args := [d] }
  | _ => none }
def fnExactRemainingTimeRow : OpenClaim := { program := "ytdpmnmhblnjhiaa", sum := "8f10665e9ab9fbeac4fa2920be5c17fea95a015ad299fe05ce2b2c5dd31802e1", func := "loop.example/g00955/laws.FnExactRemainingTime", spec := "fnExactRemainingTime", unfollowed := true, recurses := true, apart := false }
def FnExactRemainingTimeSaid : Prop := fnExactRemainingTimeRow.holds Try.pinned (OpenSpec.ofChange fnExactRemainingTimeSpec)

/-- ITS FALSE NEIGHBOUR: 'it returns false'. Refute it at one input. -/
def fnExactRemainingTimeWrong : ChangeSpec := { name := "fnExactRemainingTime", fn := fun _ => fun
  | [d] => { results := [.lit (.bool false)], args := [d] }
  | _ => none }
def FnExactRemainingTimeWrongFalsely : Prop := fnExactRemainingTimeRow.holds Try.pinned (OpenSpec.ofChange fnExactRemainingTimeWrong)

/-- 'laws.FnExactNextCue': WHATEVER THE INPUT: true; the input reads as it did. -/
def fnExactNextCueSpec : ChangeSpec := { name := "fnExactNextCue", fn := fun _ => fun
  | [d] => { results := [.lit (.bool true)], args := [d] }
  | _ => none }
def fnExactNextCueRow : OpenClaim := { program := "ytdpmnmhblnjhiaa", sum := "8f10665e9ab9fbeac4fa2920be5c17fea95a015ad299fe05ce2b2c5dd31802e1", func := "loop.example/g00955/laws.FnExactNextCue", spec := "fnExactNextCue", unfollowed := true, recurses := true, apart := false }
def FnExactNextCueSaid : Prop := fnExactNextCueRow.holds Try.pinned (OpenSpec.ofChange fnExactNextCueSpec)

/-- ITS FALSE NEIGHBOUR: 'it returns false'. Refute it at one input. -/
def fnExactNextCueWrong : ChangeSpec := { name := "fnExactNextCue", fn := fun _ => fun
  | [d] => { results := [.lit (.bool false)], args := [d] }
  | _ => none }
def FnExactNextCueWrongFalsely : Prop := fnExactNextCueRow.holds Try.pinned (OpenSpec.ofChange fnExactNextCueWrong)

/-- 'laws.FnExactNewPlayer': WHATEVER THE INPUT: true; the input reads as it did. -/
def fnExactNewPlayerSpec : ChangeSpec := { name := "fnExactNewPlayer", fn := fun _ => fun
  | [d] => { results := [.lit (.bool true)], args := [d] }
  | _ => none }
def fnExactNewPlayerRow : OpenClaim := { program := "ytdpmnmhblnjhiaa", sum := "8f10665e9ab9fbeac4fa2920be5c17fea95a015ad299fe05ce2b2c5dd31802e1", func := "loop.example/g00955/laws.FnExactNewPlayer", spec := "fnExactNewPlayer", unfollowed := true, recurses := true, apart := false }
def FnExactNewPlayerSaid : Prop := fnExactNewPlayerRow.holds Try.pinned (OpenSpec.ofChange fnExactNewPlayerSpec)

/-- ITS FALSE NEIGHBOUR: 'it returns false'. Refute it at one input. -/
def fnExactNewPlayerWrong : ChangeSpec := { name := "fnExactNewPlayer", fn := fun _ => fun
  | [d] => { results := [.lit (.bool false)], args := [d] }
  | _ => none }
def FnExactNewPlayerWrongFalsely : Prop := fnExactNewPlayerRow.holds Try.pinned (OpenSpec.ofChange fnExactNewPlayerWrong)

/-- 'laws.FnExactSeekTo': WHATEVER THE INPUT: true; the input reads as it did. -/
def fnExactSeekToSpec : ChangeSpec := { name := "fnExactSeekTo", fn := fun _ => fun
  | [d1, d2] => { results := [.lit (.bool true)], args := [d1, d2] }
  | _ => none }
def fnExactSeekToRow : OpenClaim := { program := "ytdpmnmhblnjhiaa", sum := "8f10665e9ab9fbeac4fa2920be5c17fea95a015ad299fe05ce2b2c5dd31802e1", func := "loop.example/g00955/laws.FnExactSeekTo", spec := "fnExactSeekTo", unfollowed := true, recurses := true, apart := false }
def FnExactSeekToSaid : Prop := fnExactSeekToRow.holds Try.pinned (OpenSpec.ofChange fnExactSeekToSpec)

/-- ITS FALSE NEIGHBOUR: 'it returns false'. Refute it at one input. -/
def fnExactSeekToWrong : ChangeSpec := { name := "fnExactSeekTo", fn := fun _ => fun
  | [d1, d2] => { results := [.lit (.bool false)], args := [d1, d2] }
  | _ => none }
def FnExactSeekToWrongFalsely : Prop := fnExactSeekToRow.holds Try.pinned (OpenSpec.ofChange fnExactSeekToWrong)

/-- 'laws.FnExactSetRate': WHATEVER THE INPUT: true; the input reads as it did. -/
def fnExactSetRateSpec : ChangeSpec := { name := "fnExactSetRate", fn := fun _ => fun
  | [d1, d2] => { results := [.lit (.bool true)], args := [d1, d2] }
  | _ => none }
def fnExactSetRateRow : OpenClaim := { program := "ytdpmnmhblnjhiaa", sum := "8f10665e9ab9fbeac4fa2920be5c17fea95a015ad299fe05ce2b2c5dd31802e1", func := "loop.example/g00955/laws.FnExactSetRate", spec := "fnExactSetRate", unfollowed := true, recurses := true, apart := false }
def FnExactSetRateSaid : Prop := fnExactSetRateRow.holds Try.pinned (OpenSpec.ofChange fnExactSetRateSpec)

/-- ITS FALSE NEIGHBOUR: 'it returns false'. Refute it at one input. -/
def fnExactSetRateWrong : ChangeSpec := { name := "fnExactSetRate", fn := fun _ => fun
  | [d1, d2] => { results := [.lit (.bool false)], args := [d1, d2] }
  | _ => none }
def FnExactSetRateWrongFalsely : Prop := fnExactSetRateRow.holds Try.pinned (OpenSpec.ofChange fnExactSetRateWrong)

/-- 'laws.FnExactPauseOn': WHATEVER THE INPUT: true; the input reads as it did. -/
def fnExactPauseOnSpec : ChangeSpec := { name := "fnExactPauseOn", fn := fun _ => fun
  | [d] => { results := [.lit (.bool true)], args := [d] }
  | _ => none }
def fnExactPauseOnRow : OpenClaim := { program := "ytdpmnmhblnjhiaa", sum := "8f10665e9ab9fbeac4fa2920be5c17fea95a015ad299fe05ce2b2c5dd31802e1", func := "loop.example/g00955/laws.FnExactPauseOn", spec := "fnExactPauseOn", unfollowed := true, recurses := true, apart := false }
def FnExactPauseOnSaid : Prop := fnExactPauseOnRow.holds Try.pinned (OpenSpec.ofChange fnExactPauseOnSpec)

/-- ITS FALSE NEIGHBOUR: 'it returns false'. Refute it at one input. -/
def fnExactPauseOnWrong : ChangeSpec := { name := "fnExactPauseOn", fn := fun _ => fun
  | [d] => { results := [.lit (.bool false)], args := [d] }
  | _ => none }
def FnExactPauseOnWrongFalsely : Prop := fnExactPauseOnRow.holds Try.pinned (OpenSpec.ofChange fnExactPauseOnWrong)

/-- 'laws.FnExactPlayOn': WHATEVER THE INPUT: true; the input reads as it did. -/
def fnExactPlayOnSpec : ChangeSpec := { name := "fnExactPlayOn", fn := fun _ => fun
  | [d] => { results := [.lit (.bool true)], args := [d] }
  | _ => none }
def fnExactPlayOnRow : OpenClaim := { program := "ytdpmnmhblnjhiaa", sum := "8f10665e9ab9fbeac4fa2920be5c17fea95a015ad299fe05ce2b2c5dd31802e1", func := "loop.example/g00955/laws.FnExactPlayOn", spec := "fnExactPlayOn", unfollowed := true, recurses := true, apart := false }
def FnExactPlayOnSaid : Prop := fnExactPlayOnRow.holds Try.pinned (OpenSpec.ofChange fnExactPlayOnSpec)

/-- ITS FALSE NEIGHBOUR: 'it returns false'. Refute it at one input. -/
def fnExactPlayOnWrong : ChangeSpec := { name := "fnExactPlayOn", fn := fun _ => fun
  | [d] => { results := [.lit (.bool false)], args := [d] }
  | _ => none }
def FnExactPlayOnWrongFalsely : Prop := fnExactPlayOnRow.holds Try.pinned (OpenSpec.ofChange fnExactPlayOnWrong)

/-- 'laws.FnExactTickBy': WHATEVER THE INPUT: true; the input reads as it did. -/
def fnExactTickBySpec : ChangeSpec := { name := "fnExactTickBy", fn := fun _ => fun
  | [d1, d2] => { results := [.lit (.bool true)], args := [d1, d2] }
  | _ => none }
def fnExactTickByRow : OpenClaim := { program := "ytdpmnmhblnjhiaa", sum := "8f10665e9ab9fbeac4fa2920be5c17fea95a015ad299fe05ce2b2c5dd31802e1", func := "loop.example/g00955/laws.FnExactTickBy", spec := "fnExactTickBy", unfollowed := true, recurses := true, apart := false }
def FnExactTickBySaid : Prop := fnExactTickByRow.holds Try.pinned (OpenSpec.ofChange fnExactTickBySpec)

/-- ITS FALSE NEIGHBOUR: 'it returns false'. Refute it at one input. -/
def fnExactTickByWrong : ChangeSpec := { name := "fnExactTickBy", fn := fun _ => fun
  | [d1, d2] => { results := [.lit (.bool false)], args := [d1, d2] }
  | _ => none }
def FnExactTickByWrongFalsely : Prop := fnExactTickByRow.holds Try.pinned (OpenSpec.ofChange fnExactTickByWrong)

/-- 'laws.FnExactLevelsOf': WHATEVER THE INPUT: true; the input reads as it did. -/
def fnExactLevelsOfSpec : ChangeSpec := { name := "fnExactLevelsOf", fn := fun _ => fun
  | [d] => { results := [.lit (.bool true)], args := [d] }
  | _ => none }
def fnExactLevelsOfRow : OpenClaim := { program := "ytdpmnmhblnjhiaa", sum := "8f10665e9ab9fbeac4fa2920be5c17fea95a015ad299fe05ce2b2c5dd31802e1", func := "loop.example/g00955/laws.FnExactLevelsOf", spec := "fnExactLevelsOf", unfollowed := true, recurses := true, apart := false }
def FnExactLevelsOfSaid : Prop := fnExactLevelsOfRow.holds Try.pinned (OpenSpec.ofChange fnExactLevelsOfSpec)

/-- ITS FALSE NEIGHBOUR: 'it returns false'. Refute it at one input. -/
def fnExactLevelsOfWrong : ChangeSpec := { name := "fnExactLevelsOf", fn := fun _ => fun
  | [d] => { results := [.lit (.bool false)], args := [d] }
  | _ => none }
def FnExactLevelsOfWrongFalsely : Prop := fnExactLevelsOfRow.holds Try.pinned (OpenSpec.ofChange fnExactLevelsOfWrong)

/- THE SECOND FORM. 'bulk': how many values and letters a reading holds, each counted each time it is reached (what is shared counts as often as it is met; a slice's spare places count too). A statement '..UptoSaid' is the law's where the arguments, and the package variables that the reading takes, are together of bulk at most 1048576: NARROWER than '..Said'. Prove '..Said' where nothing that the law and all that it calls make is longer than what came in: it says more and counts as full. Else prove '..UptoSaid'. A law counts once. -/
mutual
def uptoBulk {H : Type} : DataW H → Nat
  | .lit (.string bytes) => bytes.length + 1
  | .lit _ => 1
  | .nil => 1
  | .ptr d => uptoBulk d + 1
  | .slice elems spare => uptoBulkAll elems + uptoBulkAll spare + 1
  | .agg parts => uptoBulkAll parts + 1
  | .iface _ d => uptoBulk d + 1
  | .map entries => uptoBulkEntries entries + 1
  | .held _ => 1
def uptoBulkAll {H : Type} : List (DataW H) → Nat
  | [] => 0
  | d :: r => uptoBulk d + uptoBulkAll r
def uptoBulkEntries {H : Type} : List (Lit × DataW H) → Nat
  | [] => 0
  | x :: r => uptoBulkEntry x + uptoBulkEntries r
def uptoBulkEntry {H : Type} : Lit × DataW H → Nat
  | (.string bytes, d) => bytes.length + uptoBulk d + 1
  | (_, d) => uptoBulk d + 1
 end
def uptoSmall : (H : Type) → List (DataW H) → Bool := fun _ ds => decide (uptoBulkAll ds ≤ 1048576)
def OpenSpec.upto (s : _root_.Go.ChangeSpec) : _root_.Go.OpenSpec := { _root_.Go.OpenSpec.ofChange s with cond := some uptoSmall }

/-- 'laws.FnExactSamePlayer', WHERE WHAT IT READS IS OF BULK AT MOST 1048576: true; the input reads as it did. -/
def fnExactSamePlayerUptoRow : OpenClaim := { program := "ytdpmnmhblnjhiaa", sum := "8f10665e9ab9fbeac4fa2920be5c17fea95a015ad299fe05ce2b2c5dd31802e1", func := "loop.example/g00955/laws.FnExactSamePlayer", spec := "fnExactSamePlayer", apart := false, narrowed := true }
def FnExactSamePlayerUptoSaid : Prop := fnExactSamePlayerUptoRow.holds Try.pinned (OpenSpec.upto fnExactSamePlayerSpec)

/-- 'laws.FnExactValidPlayer', WHERE WHAT IT READS IS OF BULK AT MOST 1048576: true; the input reads as it did. -/
def fnExactValidPlayerUptoRow : OpenClaim := { program := "ytdpmnmhblnjhiaa", sum := "8f10665e9ab9fbeac4fa2920be5c17fea95a015ad299fe05ce2b2c5dd31802e1", func := "loop.example/g00955/laws.FnExactValidPlayer", spec := "fnExactValidPlayer", unfollowed := true, recurses := true, apart := false, narrowed := true }
def FnExactValidPlayerUptoSaid : Prop := fnExactValidPlayerUptoRow.holds Try.pinned (OpenSpec.upto fnExactValidPlayerSpec)

/-- 'laws.FnExactRemainingTime', WHERE WHAT IT READS IS OF BULK AT MOST 1048576: true; the input reads as it did. -/
def fnExactRemainingTimeUptoRow : OpenClaim := { program := "ytdpmnmhblnjhiaa", sum := "8f10665e9ab9fbeac4fa2920be5c17fea95a015ad299fe05ce2b2c5dd31802e1", func := "loop.example/g00955/laws.FnExactRemainingTime", spec := "fnExactRemainingTime", unfollowed := true, recurses := true, apart := false, narrowed := true }
def FnExactRemainingTimeUptoSaid : Prop := fnExactRemainingTimeUptoRow.holds Try.pinned (OpenSpec.upto fnExactRemainingTimeSpec)

/-- 'laws.FnExactNextCue', WHERE WHAT IT READS IS OF BULK AT MOST 1048576: true; the input reads as it did. -/
def fnExactNextCueUptoRow : OpenClaim := { program := "ytdpmnmhblnjhiaa", sum := "8f10665e9ab9fbeac4fa2920be5c17fea95a015ad299fe05ce2b2c5dd31802e1", func := "loop.example/g00955/laws.FnExactNextCue", spec := "fnExactNextCue", unfollowed := true, recurses := true, apart := false, narrowed := true }
def FnExactNextCueUptoSaid : Prop := fnExactNextCueUptoRow.holds Try.pinned (OpenSpec.upto fnExactNextCueSpec)

/-- 'laws.FnExactNewPlayer', WHERE WHAT IT READS IS OF BULK AT MOST 1048576: true; the input reads as it did. -/
def fnExactNewPlayerUptoRow : OpenClaim := { program := "ytdpmnmhblnjhiaa", sum := "8f10665e9ab9fbeac4fa2920be5c17fea95a015ad299fe05ce2b2c5dd31802e1", func := "loop.example/g00955/laws.FnExactNewPlayer", spec := "fnExactNewPlayer", unfollowed := true, recurses := true, apart := false, narrowed := true }
def FnExactNewPlayerUptoSaid : Prop := fnExactNewPlayerUptoRow.holds Try.pinned (OpenSpec.upto fnExactNewPlayerSpec)

/-- 'laws.FnExactSeekTo', WHERE WHAT IT READS IS OF BULK AT MOST 1048576: true; the input reads as it did. -/
def fnExactSeekToUptoRow : OpenClaim := { program := "ytdpmnmhblnjhiaa", sum := "8f10665e9ab9fbeac4fa2920be5c17fea95a015ad299fe05ce2b2c5dd31802e1", func := "loop.example/g00955/laws.FnExactSeekTo", spec := "fnExactSeekTo", unfollowed := true, recurses := true, apart := false, narrowed := true }
def FnExactSeekToUptoSaid : Prop := fnExactSeekToUptoRow.holds Try.pinned (OpenSpec.upto fnExactSeekToSpec)

/-- 'laws.FnExactSetRate', WHERE WHAT IT READS IS OF BULK AT MOST 1048576: true; the input reads as it did. -/
def fnExactSetRateUptoRow : OpenClaim := { program := "ytdpmnmhblnjhiaa", sum := "8f10665e9ab9fbeac4fa2920be5c17fea95a015ad299fe05ce2b2c5dd31802e1", func := "loop.example/g00955/laws.FnExactSetRate", spec := "fnExactSetRate", unfollowed := true, recurses := true, apart := false, narrowed := true }
def FnExactSetRateUptoSaid : Prop := fnExactSetRateUptoRow.holds Try.pinned (OpenSpec.upto fnExactSetRateSpec)

/-- 'laws.FnExactPauseOn', WHERE WHAT IT READS IS OF BULK AT MOST 1048576: true; the input reads as it did. -/
def fnExactPauseOnUptoRow : OpenClaim := { program := "ytdpmnmhblnjhiaa", sum := "8f10665e9ab9fbeac4fa2920be5c17fea95a015ad299fe05ce2b2c5dd31802e1", func := "loop.example/g00955/laws.FnExactPauseOn", spec := "fnExactPauseOn", unfollowed := true, recurses := true, apart := false, narrowed := true }
def FnExactPauseOnUptoSaid : Prop := fnExactPauseOnUptoRow.holds Try.pinned (OpenSpec.upto fnExactPauseOnSpec)

/-- 'laws.FnExactPlayOn', WHERE WHAT IT READS IS OF BULK AT MOST 1048576: true; the input reads as it did. -/
def fnExactPlayOnUptoRow : OpenClaim := { program := "ytdpmnmhblnjhiaa", sum := "8f10665e9ab9fbeac4fa2920be5c17fea95a015ad299fe05ce2b2c5dd31802e1", func := "loop.example/g00955/laws.FnExactPlayOn", spec := "fnExactPlayOn", unfollowed := true, recurses := true, apart := false, narrowed := true }
def FnExactPlayOnUptoSaid : Prop := fnExactPlayOnUptoRow.holds Try.pinned (OpenSpec.upto fnExactPlayOnSpec)

/-- 'laws.FnExactTickBy', WHERE WHAT IT READS IS OF BULK AT MOST 1048576: true; the input reads as it did. -/
def fnExactTickByUptoRow : OpenClaim := { program := "ytdpmnmhblnjhiaa", sum := "8f10665e9ab9fbeac4fa2920be5c17fea95a015ad299fe05ce2b2c5dd31802e1", func := "loop.example/g00955/laws.FnExactTickBy", spec := "fnExactTickBy", unfollowed := true, recurses := true, apart := false, narrowed := true }
def FnExactTickByUptoSaid : Prop := fnExactTickByUptoRow.holds Try.pinned (OpenSpec.upto fnExactTickBySpec)

/-- 'laws.FnExactLevelsOf', WHERE WHAT IT READS IS OF BULK AT MOST 1048576: true; the input reads as it did. -/
def fnExactLevelsOfUptoRow : OpenClaim := { program := "ytdpmnmhblnjhiaa", sum := "8f10665e9ab9fbeac4fa2920be5c17fea95a015ad299fe05ce2b2c5dd31802e1", func := "loop.example/g00955/laws.FnExactLevelsOf", spec := "fnExactLevelsOf", unfollowed := true, recurses := true, apart := false, narrowed := true }
def FnExactLevelsOfUptoSaid : Prop := fnExactLevelsOfUptoRow.holds Try.pinned (OpenSpec.upto fnExactLevelsOfSpec)

end Rows
end Go.Proofs.Ytdpmnmhblnjhiaa
