/-
  No cell of these rows narrows 'for every input' (looked for: loops, veiled, ifaces, maps, wideKeys, modest, calm, conditions, laid).
  DERIVED. THE GIVEN ROWS OF THIS SEAT. 11 by the template 'for every input the law returns true; each argument reads behind the call as it read before'; 0 by the template 'total and deterministic' (their statements: YtfdghdnnjhilgaaTotals.lean).
  GIVEN WITH THE SEED: the statements are not yours to turn. If you find one false, say at which input.
  Laid BY PROGRAM, IN A SANDBOX (cutbox-rows.mjs): the forced cells as the released guide's own fill.sh prints them over the translation d3753ba32560cd07… (all of the seat's roots in one cut). By AI agents, Wed Nov 11 2026. No macro, syntax, notation, axiom, sorry.
-/
import Derived.Test.YtfdghdnnjhilgaaChecked
import GoSem.Claim
import GoSem.ClaimJoined
import GoSem.ClaimMapViews
import Derived.JoinedTies
import Derived.KernelRfl
namespace Go.Proofs.Ytfdghdnnjhilgaa
/- THE CELL 'sum', in the pinned program and in every row, IS THE sha256 OF THE DUMP (.gsa) THAT YtfdghdnnjhilgaaProg.lean LOADS. Nothing in Lean hashes anything: it is a label: what it is worth is what the hold of that sum in a sandbox is worth. -/
noncomputable def Try.pinned : Pinned := { name := "ytfdghdnnjhilgaa", sum := "d3753ba32560cd070c9ec249f3017f494db62172aaf899db9aea7a5194cbb1eb", checked := Try.checked }
namespace Rows
def none {H : Type} : Left H := { results := [], args := [] }

/-- 'laws.FnExactValidHolds': WHATEVER THE INPUT: true; the input reads as it did. -/
def fnExactValidHoldsSpec : ChangeSpec := { name := "fnExactValidHolds", fn := fun _ => fun
  | [d] => { results := [.lit (.bool true)], args := [d] }
  | _ => none }
def fnExactValidHoldsRow : OpenClaim := { program := "ytfdghdnnjhilgaa", sum := "d3753ba32560cd070c9ec249f3017f494db62172aaf899db9aea7a5194cbb1eb", func := "loop.example/g00955/laws.FnExactValidHolds", spec := "fnExactValidHolds", apart := false }
def FnExactValidHoldsSaid : Prop := fnExactValidHoldsRow.holds Try.pinned (OpenSpec.ofChange fnExactValidHoldsSpec)

/-- ITS FALSE NEIGHBOUR: 'it returns false'. Refute it at one input. -/
def fnExactValidHoldsWrong : ChangeSpec := { name := "fnExactValidHolds", fn := fun _ => fun
  | [d] => { results := [.lit (.bool false)], args := [d] }
  | _ => none }
def FnExactValidHoldsWrongFalsely : Prop := fnExactValidHoldsRow.holds Try.pinned (OpenSpec.ofChange fnExactValidHoldsWrong)

/-- 'laws.FnExactValidSkips': WHATEVER THE INPUT: true; the input reads as it did. -/
def fnExactValidSkipsSpec : ChangeSpec := { name := "fnExactValidSkips", fn := fun _ => fun
  | [d] => { results := [.lit (.bool true)], args := [d] }
  | _ => none }
def fnExactValidSkipsRow : OpenClaim := { program := "ytfdghdnnjhilgaa", sum := "d3753ba32560cd070c9ec249f3017f494db62172aaf899db9aea7a5194cbb1eb", func := "loop.example/g00955/laws.FnExactValidSkips", spec := "fnExactValidSkips", apart := false }
def FnExactValidSkipsSaid : Prop := fnExactValidSkipsRow.holds Try.pinned (OpenSpec.ofChange fnExactValidSkipsSpec)

/-- ITS FALSE NEIGHBOUR: 'it returns false'. Refute it at one input. -/
def fnExactValidSkipsWrong : ChangeSpec := { name := "fnExactValidSkips", fn := fun _ => fun
  | [d] => { results := [.lit (.bool false)], args := [d] }
  | _ => none }
def FnExactValidSkipsWrongFalsely : Prop := fnExactValidSkipsRow.holds Try.pinned (OpenSpec.ofChange fnExactValidSkipsWrong)

/-- 'laws.FnExactRealOf': WHATEVER THE INPUT: true; the input reads as it did. -/
def fnExactRealOfSpec : ChangeSpec := { name := "fnExactRealOf", fn := fun _ => fun
  | [d1, d2] => { results := [.lit (.bool true)], args := [d1, d2] }
  | _ => none }
def fnExactRealOfRow : OpenClaim := { program := "ytfdghdnnjhilgaa", sum := "d3753ba32560cd070c9ec249f3017f494db62172aaf899db9aea7a5194cbb1eb", func := "loop.example/g00955/laws.FnExactRealOf", spec := "fnExactRealOf", apart := false }
def FnExactRealOfSaid : Prop := fnExactRealOfRow.holds Try.pinned (OpenSpec.ofChange fnExactRealOfSpec)

/-- ITS FALSE NEIGHBOUR: 'it returns false'. Refute it at one input. -/
def fnExactRealOfWrong : ChangeSpec := { name := "fnExactRealOf", fn := fun _ => fun
  | [d1, d2] => { results := [.lit (.bool false)], args := [d1, d2] }
  | _ => none }
def FnExactRealOfWrongFalsely : Prop := fnExactRealOfRow.holds Try.pinned (OpenSpec.ofChange fnExactRealOfWrong)

/-- 'laws.FnExactValidQuestions': WHATEVER THE INPUT: true; the input reads as it did. -/
def fnExactValidQuestionsSpec : ChangeSpec := { name := "fnExactValidQuestions", fn := fun _ => fun
  | [d] => { results := [.lit (.bool true)], args := [d] }
  | _ => none }
def fnExactValidQuestionsRow : OpenClaim := { program := "ytfdghdnnjhilgaa", sum := "d3753ba32560cd070c9ec249f3017f494db62172aaf899db9aea7a5194cbb1eb", func := "loop.example/g00955/laws.FnExactValidQuestions", spec := "fnExactValidQuestions", apart := false }
def FnExactValidQuestionsSaid : Prop := fnExactValidQuestionsRow.holds Try.pinned (OpenSpec.ofChange fnExactValidQuestionsSpec)

/-- ITS FALSE NEIGHBOUR: 'it returns false'. Refute it at one input. -/
def fnExactValidQuestionsWrong : ChangeSpec := { name := "fnExactValidQuestions", fn := fun _ => fun
  | [d] => { results := [.lit (.bool false)], args := [d] }
  | _ => none }
def FnExactValidQuestionsWrongFalsely : Prop := fnExactValidQuestionsRow.holds Try.pinned (OpenSpec.ofChange fnExactValidQuestionsWrong)

/-- 'laws.FnExactLostTime': WHATEVER THE INPUT: true; the input reads as it did. -/
def fnExactLostTimeSpec : ChangeSpec := { name := "fnExactLostTime", fn := fun _ => fun
  | [d1, d2] => { results := [.lit (.bool true)], args := [d1, d2] }
  | _ => none }
def fnExactLostTimeRow : OpenClaim := { program := "ytfdghdnnjhilgaa", sum := "d3753ba32560cd070c9ec249f3017f494db62172aaf899db9aea7a5194cbb1eb", func := "loop.example/g00955/laws.FnExactLostTime", spec := "fnExactLostTime", apart := false }
def FnExactLostTimeSaid : Prop := fnExactLostTimeRow.holds Try.pinned (OpenSpec.ofChange fnExactLostTimeSpec)

/-- ITS FALSE NEIGHBOUR: 'it returns false'. Refute it at one input. -/
def fnExactLostTimeWrong : ChangeSpec := { name := "fnExactLostTime", fn := fun _ => fun
  | [d1, d2] => { results := [.lit (.bool false)], args := [d1, d2] }
  | _ => none }
def FnExactLostTimeWrongFalsely : Prop := fnExactLostTimeRow.holds Try.pinned (OpenSpec.ofChange fnExactLostTimeWrong)

/-- 'laws.FnExactShowOf': WHATEVER THE INPUT: true; the input reads as it did. -/
def fnExactShowOfSpec : ChangeSpec := { name := "fnExactShowOf", fn := fun _ => fun
  | [d1, d2] => { results := [.lit (.bool true)], args := [d1, d2] }
  | _ => none }
def fnExactShowOfRow : OpenClaim := { program := "ytfdghdnnjhilgaa", sum := "d3753ba32560cd070c9ec249f3017f494db62172aaf899db9aea7a5194cbb1eb", func := "loop.example/g00955/laws.FnExactShowOf", spec := "fnExactShowOf", apart := false }
def FnExactShowOfSaid : Prop := fnExactShowOfRow.holds Try.pinned (OpenSpec.ofChange fnExactShowOfSpec)

/-- ITS FALSE NEIGHBOUR: 'it returns false'. Refute it at one input. -/
def fnExactShowOfWrong : ChangeSpec := { name := "fnExactShowOf", fn := fun _ => fun
  | [d1, d2] => { results := [.lit (.bool false)], args := [d1, d2] }
  | _ => none }
def FnExactShowOfWrongFalsely : Prop := fnExactShowOfRow.holds Try.pinned (OpenSpec.ofChange fnExactShowOfWrong)

/-- 'laws.FnExactAfterSkips': WHATEVER THE INPUT: true; the input reads as it did. -/
def fnExactAfterSkipsSpec : ChangeSpec := { name := "fnExactAfterSkips", fn := fun _ => fun
  | [d1, d2, d3] => { results := [.lit (.bool true)], args := [d1, d2, d3] }
  | _ => none }
def fnExactAfterSkipsRow : OpenClaim := { program := "ytfdghdnnjhilgaa", sum := "d3753ba32560cd070c9ec249f3017f494db62172aaf899db9aea7a5194cbb1eb", func := "loop.example/g00955/laws.FnExactAfterSkips", spec := "fnExactAfterSkips", apart := false }
def FnExactAfterSkipsSaid : Prop := fnExactAfterSkipsRow.holds Try.pinned (OpenSpec.ofChange fnExactAfterSkipsSpec)

/-- ITS FALSE NEIGHBOUR: 'it returns false'. Refute it at one input. -/
def fnExactAfterSkipsWrong : ChangeSpec := { name := "fnExactAfterSkips", fn := fun _ => fun
  | [d1, d2, d3] => { results := [.lit (.bool false)], args := [d1, d2, d3] }
  | _ => none }
def FnExactAfterSkipsWrongFalsely : Prop := fnExactAfterSkipsRow.holds Try.pinned (OpenSpec.ofChange fnExactAfterSkipsWrong)

/-- 'laws.FnExactNextQuestion': WHATEVER THE INPUT: true; the input reads as it did. -/
def fnExactNextQuestionSpec : ChangeSpec := { name := "fnExactNextQuestion", fn := fun _ => fun
  | [d1, d2] => { results := [.lit (.bool true)], args := [d1, d2] }
  | _ => none }
def fnExactNextQuestionRow : OpenClaim := { program := "ytfdghdnnjhilgaa", sum := "d3753ba32560cd070c9ec249f3017f494db62172aaf899db9aea7a5194cbb1eb", func := "loop.example/g00955/laws.FnExactNextQuestion", spec := "fnExactNextQuestion", apart := false }
def FnExactNextQuestionSaid : Prop := fnExactNextQuestionRow.holds Try.pinned (OpenSpec.ofChange fnExactNextQuestionSpec)

/-- ITS FALSE NEIGHBOUR: 'it returns false'. Refute it at one input. -/
def fnExactNextQuestionWrong : ChangeSpec := { name := "fnExactNextQuestion", fn := fun _ => fun
  | [d1, d2] => { results := [.lit (.bool false)], args := [d1, d2] }
  | _ => none }
def FnExactNextQuestionWrongFalsely : Prop := fnExactNextQuestionRow.holds Try.pinned (OpenSpec.ofChange fnExactNextQuestionWrong)

/-- 'laws.FnExactAnswerOrder': WHATEVER THE INPUT: true; the input reads as it did. -/
def fnExactAnswerOrderSpec : ChangeSpec := { name := "fnExactAnswerOrder", fn := fun _ => fun
  | [d1, d2, d3] => { results := [.lit (.bool true)], args := [d1, d2, d3] }
  | _ => none }
def fnExactAnswerOrderRow : OpenClaim := { program := "ytfdghdnnjhilgaa", sum := "d3753ba32560cd070c9ec249f3017f494db62172aaf899db9aea7a5194cbb1eb", func := "loop.example/g00955/laws.FnExactAnswerOrder", spec := "fnExactAnswerOrder", apart := false }
def FnExactAnswerOrderSaid : Prop := fnExactAnswerOrderRow.holds Try.pinned (OpenSpec.ofChange fnExactAnswerOrderSpec)

/-- ITS FALSE NEIGHBOUR: 'it returns false'. Refute it at one input. -/
def fnExactAnswerOrderWrong : ChangeSpec := { name := "fnExactAnswerOrder", fn := fun _ => fun
  | [d1, d2, d3] => { results := [.lit (.bool false)], args := [d1, d2, d3] }
  | _ => none }
def FnExactAnswerOrderWrongFalsely : Prop := fnExactAnswerOrderRow.holds Try.pinned (OpenSpec.ofChange fnExactAnswerOrderWrong)

/-- 'laws.FnExactAddHold': WHATEVER THE INPUT: true; the input reads as it did. -/
def fnExactAddHoldSpec : ChangeSpec := { name := "fnExactAddHold", fn := fun _ => fun
  | [d1, d2, d3] => { results := [.lit (.bool true)], args := [d1, d2, d3] }
  | _ => none }
def fnExactAddHoldRow : OpenClaim := { program := "ytfdghdnnjhilgaa", sum := "d3753ba32560cd070c9ec249f3017f494db62172aaf899db9aea7a5194cbb1eb", func := "loop.example/g00955/laws.FnExactAddHold", spec := "fnExactAddHold", inPlace := ["slices.overlaps[loop.example/g00955/impl.Hold]"], apart := false }
def FnExactAddHoldSaid : Prop := fnExactAddHoldRow.holds Try.pinned (OpenSpec.ofChange fnExactAddHoldSpec)

/-- ITS FALSE NEIGHBOUR: 'it returns false'. Refute it at one input. -/
def fnExactAddHoldWrong : ChangeSpec := { name := "fnExactAddHold", fn := fun _ => fun
  | [d1, d2, d3] => { results := [.lit (.bool false)], args := [d1, d2, d3] }
  | _ => none }
def FnExactAddHoldWrongFalsely : Prop := fnExactAddHoldRow.holds Try.pinned (OpenSpec.ofChange fnExactAddHoldWrong)

/-- 'laws.FnHolds': WHATEVER THE INPUT: true; the input reads as it did. -/
def fnHoldsSpec : ChangeSpec := { name := "fnHolds", fn := fun _ => fun
  | [d1, d2] => { results := [.lit (.bool true)], args := [d1, d2] }
  | _ => none }
def fnHoldsRow : OpenClaim := { program := "ytfdghdnnjhilgaa", sum := "d3753ba32560cd070c9ec249f3017f494db62172aaf899db9aea7a5194cbb1eb", func := "loop.example/g00955/laws.FnHolds", spec := "fnHolds", inPlace := ["slices.overlaps[loop.example/g00955/impl.Hold]"], apart := false }
def FnHoldsSaid : Prop := fnHoldsRow.holds Try.pinned (OpenSpec.ofChange fnHoldsSpec)

/-- ITS FALSE NEIGHBOUR: 'it returns false'. Refute it at one input. -/
def fnHoldsWrong : ChangeSpec := { name := "fnHolds", fn := fun _ => fun
  | [d1, d2] => { results := [.lit (.bool false)], args := [d1, d2] }
  | _ => none }
def FnHoldsWrongFalsely : Prop := fnHoldsRow.holds Try.pinned (OpenSpec.ofChange fnHoldsWrong)

/- THE SECOND FORM. 'bulk': how many values and letters a reading holds, each counted each time it is reached (what is shared counts as often as it is met; a slice's spare places count too). A statement '..UptoSaid' is the law's where the arguments, and the package variables that the reading takes, are together of bulk at most 1048576: NARROWER than '..Said'. Prove '..Said' where nothing that the law and all that it calls make is longer than what came in: it says more and counts as full. Else prove '..UptoSaid'. A law counts once. -/
mutual
def uptoBulk {H : Type} : DataW H → Nat
  | .lit (.string bytes) => bytes.length + 1
  | .lit _ => 1
  | .nil => 1
  | .ptr d => uptoBulk d + 1
  | .slice elems spare => uptoBulkAll elems + uptoBulkAll spare + 1
  | .agg parts => uptoBulkAll parts + 1
  | .iface _ d => uptoBulk d + 1
  | .map entries => uptoBulkEntries entries + 1
  | .held _ => 1
def uptoBulkAll {H : Type} : List (DataW H) → Nat
  | [] => 0
  | d :: r => uptoBulk d + uptoBulkAll r
def uptoBulkEntries {H : Type} : List (Lit × DataW H) → Nat
  | [] => 0
  | x :: r => uptoBulkEntry x + uptoBulkEntries r
def uptoBulkEntry {H : Type} : Lit × DataW H → Nat
  | (.string bytes, d) => bytes.length + uptoBulk d + 1
  | (_, d) => uptoBulk d + 1
 end
def uptoSmall : (H : Type) → List (DataW H) → Bool := fun _ ds => decide (uptoBulkAll ds ≤ 1048576)
def OpenSpec.upto (s : _root_.Go.ChangeSpec) : _root_.Go.OpenSpec := { _root_.Go.OpenSpec.ofChange s with cond := some uptoSmall }

/-- 'laws.FnExactValidHolds', WHERE WHAT IT READS IS OF BULK AT MOST 1048576: true; the input reads as it did. -/
def fnExactValidHoldsUptoRow : OpenClaim := { program := "ytfdghdnnjhilgaa", sum := "d3753ba32560cd070c9ec249f3017f494db62172aaf899db9aea7a5194cbb1eb", func := "loop.example/g00955/laws.FnExactValidHolds", spec := "fnExactValidHolds", apart := false, narrowed := true }
def FnExactValidHoldsUptoSaid : Prop := fnExactValidHoldsUptoRow.holds Try.pinned (OpenSpec.upto fnExactValidHoldsSpec)

/-- 'laws.FnExactValidSkips', WHERE WHAT IT READS IS OF BULK AT MOST 1048576: true; the input reads as it did. -/
def fnExactValidSkipsUptoRow : OpenClaim := { program := "ytfdghdnnjhilgaa", sum := "d3753ba32560cd070c9ec249f3017f494db62172aaf899db9aea7a5194cbb1eb", func := "loop.example/g00955/laws.FnExactValidSkips", spec := "fnExactValidSkips", apart := false, narrowed := true }
def FnExactValidSkipsUptoSaid : Prop := fnExactValidSkipsUptoRow.holds Try.pinned (OpenSpec.upto fnExactValidSkipsSpec)

/-- 'laws.FnExactRealOf', WHERE WHAT IT READS IS OF BULK AT MOST 1048576: true; the input reads as it did. -/
def fnExactRealOfUptoRow : OpenClaim := { program := "ytfdghdnnjhilgaa", sum := "d3753ba32560cd070c9ec249f3017f494db62172aaf899db9aea7a5194cbb1eb", func := "loop.example/g00955/laws.FnExactRealOf", spec := "fnExactRealOf", apart := false, narrowed := true }
def FnExactRealOfUptoSaid : Prop := fnExactRealOfUptoRow.holds Try.pinned (OpenSpec.upto fnExactRealOfSpec)

/-- 'laws.FnExactValidQuestions', WHERE WHAT IT READS IS OF BULK AT MOST 1048576: true; the input reads as it did. -/
def fnExactValidQuestionsUptoRow : OpenClaim := { program := "ytfdghdnnjhilgaa", sum := "d3753ba32560cd070c9ec249f3017f494db62172aaf899db9aea7a5194cbb1eb", func := "loop.example/g00955/laws.FnExactValidQuestions", spec := "fnExactValidQuestions", apart := false, narrowed := true }
def FnExactValidQuestionsUptoSaid : Prop := fnExactValidQuestionsUptoRow.holds Try.pinned (OpenSpec.upto fnExactValidQuestionsSpec)

/-- 'laws.FnExactLostTime', WHERE WHAT IT READS IS OF BULK AT MOST 1048576: true; the input reads as it did. -/
def fnExactLostTimeUptoRow : OpenClaim := { program := "ytfdghdnnjhilgaa", sum := "d3753ba32560cd070c9ec249f3017f494db62172aaf899db9aea7a5194cbb1eb", func := "loop.example/g00955/laws.FnExactLostTime", spec := "fnExactLostTime", apart := false, narrowed := true }
def FnExactLostTimeUptoSaid : Prop := fnExactLostTimeUptoRow.holds Try.pinned (OpenSpec.upto fnExactLostTimeSpec)

/-- 'laws.FnExactShowOf', WHERE WHAT IT READS IS OF BULK AT MOST 1048576: true; the input reads as it did. -/
def fnExactShowOfUptoRow : OpenClaim := { program := "ytfdghdnnjhilgaa", sum := "d3753ba32560cd070c9ec249f3017f494db62172aaf899db9aea7a5194cbb1eb", func := "loop.example/g00955/laws.FnExactShowOf", spec := "fnExactShowOf", apart := false, narrowed := true }
def FnExactShowOfUptoSaid : Prop := fnExactShowOfUptoRow.holds Try.pinned (OpenSpec.upto fnExactShowOfSpec)

/-- 'laws.FnExactAfterSkips', WHERE WHAT IT READS IS OF BULK AT MOST 1048576: true; the input reads as it did. -/
def fnExactAfterSkipsUptoRow : OpenClaim := { program := "ytfdghdnnjhilgaa", sum := "d3753ba32560cd070c9ec249f3017f494db62172aaf899db9aea7a5194cbb1eb", func := "loop.example/g00955/laws.FnExactAfterSkips", spec := "fnExactAfterSkips", apart := false, narrowed := true }
def FnExactAfterSkipsUptoSaid : Prop := fnExactAfterSkipsUptoRow.holds Try.pinned (OpenSpec.upto fnExactAfterSkipsSpec)

/-- 'laws.FnExactNextQuestion', WHERE WHAT IT READS IS OF BULK AT MOST 1048576: true; the input reads as it did. -/
def fnExactNextQuestionUptoRow : OpenClaim := { program := "ytfdghdnnjhilgaa", sum := "d3753ba32560cd070c9ec249f3017f494db62172aaf899db9aea7a5194cbb1eb", func := "loop.example/g00955/laws.FnExactNextQuestion", spec := "fnExactNextQuestion", apart := false, narrowed := true }
def FnExactNextQuestionUptoSaid : Prop := fnExactNextQuestionUptoRow.holds Try.pinned (OpenSpec.upto fnExactNextQuestionSpec)

/-- 'laws.FnExactAnswerOrder', WHERE WHAT IT READS IS OF BULK AT MOST 1048576: true; the input reads as it did. -/
def fnExactAnswerOrderUptoRow : OpenClaim := { program := "ytfdghdnnjhilgaa", sum := "d3753ba32560cd070c9ec249f3017f494db62172aaf899db9aea7a5194cbb1eb", func := "loop.example/g00955/laws.FnExactAnswerOrder", spec := "fnExactAnswerOrder", apart := false, narrowed := true }
def FnExactAnswerOrderUptoSaid : Prop := fnExactAnswerOrderUptoRow.holds Try.pinned (OpenSpec.upto fnExactAnswerOrderSpec)

/-- 'laws.FnExactAddHold', WHERE WHAT IT READS IS OF BULK AT MOST 1048576: true; the input reads as it did. -/
def fnExactAddHoldUptoRow : OpenClaim := { program := "ytfdghdnnjhilgaa", sum := "d3753ba32560cd070c9ec249f3017f494db62172aaf899db9aea7a5194cbb1eb", func := "loop.example/g00955/laws.FnExactAddHold", spec := "fnExactAddHold", inPlace := ["slices.overlaps[loop.example/g00955/impl.Hold]"], apart := false, narrowed := true }
def FnExactAddHoldUptoSaid : Prop := fnExactAddHoldUptoRow.holds Try.pinned (OpenSpec.upto fnExactAddHoldSpec)

/-- 'laws.FnHolds', WHERE WHAT IT READS IS OF BULK AT MOST 1048576: true; the input reads as it did. -/
def fnHoldsUptoRow : OpenClaim := { program := "ytfdghdnnjhilgaa", sum := "d3753ba32560cd070c9ec249f3017f494db62172aaf899db9aea7a5194cbb1eb", func := "loop.example/g00955/laws.FnHolds", spec := "fnHolds", inPlace := ["slices.overlaps[loop.example/g00955/impl.Hold]"], apart := false, narrowed := true }
def FnHoldsUptoSaid : Prop := fnHoldsUptoRow.holds Try.pinned (OpenSpec.upto fnHoldsSpec)

end Rows
end Go.Proofs.Ytfdghdnnjhilgaa
