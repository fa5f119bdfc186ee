/-
  No cell of these rows narrows 'for every input' (looked for: loops, veiled, ifaces, maps, wideKeys, modest, calm, conditions, laid).
  DERIVED. THE GIVEN ROWS OF THIS SEAT. 10 by the template 'for every input the law returns true; each argument reads behind the call as it read before'; 0 by the template 'total and deterministic' (their statements: YtojpfbbgpcafnaaTotals.lean).
  GIVEN WITH THE SEED: the statements are not yours to turn. If you find one false, say at which input.
  Laid BY PROGRAM, IN A SANDBOX (cutbox-rows.mjs): the forced cells as the released guide's own fill.sh prints them over the translation 4c5a844fa033159a… (all of the seat's roots in one cut). By AI agents, Wed Nov 11 2026. No macro, syntax, notation, axiom, sorry.
-/
import Derived.Test.YtojpfbbgpcafnaaChecked
import GoSem.Claim
import GoSem.ClaimJoined
import GoSem.ClaimMapViews
import Derived.JoinedTies
import Derived.KernelRfl
namespace Go.Proofs.Ytojpfbbgpcafnaa
/- THE CELL 'sum', in the pinned program and in every row, IS THE sha256 OF THE DUMP (.gsa) THAT YtojpfbbgpcafnaaProg.lean LOADS. Nothing in Lean hashes anything: it is a label: what it is worth is what the hold of that sum in a sandbox is worth. -/
noncomputable def Try.pinned : Pinned := { name := "ytojpfbbgpcafnaa", sum := "4c5a844fa033159aa9bc1563e8dd7a726356f4565d4f800dc49b860f3f9fce65", checked := Try.checked }
namespace Rows
def none {H : Type} : Left H := { results := [], args := [] }

/-- 'laws.FnRoundIdeal': WHATEVER THE INPUT: true; the input reads as it did. -/
def fnRoundIdealSpec : ChangeSpec := { name := "fnRoundIdeal", fn := fun _ => fun
  | [d] => { results := [.lit (.bool true)], args := [d] }
  | _ => none }
def fnRoundIdealRow : OpenClaim := { program := "ytojpfbbgpcafnaa", sum := "4c5a844fa033159aa9bc1563e8dd7a726356f4565d4f800dc49b860f3f9fce65", func := "loop.example/ringoverlay/laws.FnRoundIdeal", spec := "fnRoundIdeal", unfollowed := true, recurses := true, apart := false }
def FnRoundIdealSaid : Prop := fnRoundIdealRow.holds Try.pinned (OpenSpec.ofChange fnRoundIdealSpec)

/-- ITS FALSE NEIGHBOUR: 'it returns false'. Refute it at one input. -/
def fnRoundIdealWrong : ChangeSpec := { name := "fnRoundIdeal", fn := fun _ => fun
  | [d] => { results := [.lit (.bool false)], args := [d] }
  | _ => none }
def FnRoundIdealWrongFalsely : Prop := fnRoundIdealRow.holds Try.pinned (OpenSpec.ofChange fnRoundIdealWrong)

/-- 'laws.FnCalmSteps': WHATEVER THE INPUT: true; the input reads as it did. -/
def fnCalmStepsSpec : ChangeSpec := { name := "fnCalmSteps", fn := fun _ => fun
  | [d1, d2] => { results := [.lit (.bool true)], args := [d1, d2] }
  | _ => none }
def fnCalmStepsRow : OpenClaim := { program := "ytojpfbbgpcafnaa", sum := "4c5a844fa033159aa9bc1563e8dd7a726356f4565d4f800dc49b860f3f9fce65", func := "loop.example/ringoverlay/laws.FnCalmSteps", spec := "fnCalmSteps", unfollowed := true, recurses := true, apart := false }
def FnCalmStepsSaid : Prop := fnCalmStepsRow.holds Try.pinned (OpenSpec.ofChange fnCalmStepsSpec)

/-- ITS FALSE NEIGHBOUR: 'it returns false'. Refute it at one input. -/
def fnCalmStepsWrong : ChangeSpec := { name := "fnCalmSteps", fn := fun _ => fun
  | [d1, d2] => { results := [.lit (.bool false)], args := [d1, d2] }
  | _ => none }
def FnCalmStepsWrongFalsely : Prop := fnCalmStepsRow.holds Try.pinned (OpenSpec.ofChange fnCalmStepsWrong)

/-- 'laws.FnIdealSteps': WHATEVER THE INPUT: true; the input reads as it did. -/
def fnIdealStepsSpec : ChangeSpec := { name := "fnIdealSteps", fn := fun _ => fun
  | [d1, d2] => { results := [.lit (.bool true)], args := [d1, d2] }
  | _ => none }
def fnIdealStepsRow : OpenClaim := { program := "ytojpfbbgpcafnaa", sum := "4c5a844fa033159aa9bc1563e8dd7a726356f4565d4f800dc49b860f3f9fce65", func := "loop.example/ringoverlay/laws.FnIdealSteps", spec := "fnIdealSteps", unfollowed := true, recurses := true, apart := false }
def FnIdealStepsSaid : Prop := fnIdealStepsRow.holds Try.pinned (OpenSpec.ofChange fnIdealStepsSpec)

/-- ITS FALSE NEIGHBOUR: 'it returns false'. Refute it at one input. -/
def fnIdealStepsWrong : ChangeSpec := { name := "fnIdealSteps", fn := fun _ => fun
  | [d1, d2] => { results := [.lit (.bool false)], args := [d1, d2] }
  | _ => none }
def FnIdealStepsWrongFalsely : Prop := fnIdealStepsRow.holds Try.pinned (OpenSpec.ofChange fnIdealStepsWrong)

/-- 'laws.FnStabilizeOthers': WHATEVER THE INPUT: true; the input reads as it did. -/
def fnStabilizeOthersSpec : ChangeSpec := { name := "fnStabilizeOthers", fn := fun _ => fun
  | [d] => { results := [.lit (.bool true)], args := [d] }
  | _ => none }
def fnStabilizeOthersRow : OpenClaim := { program := "ytojpfbbgpcafnaa", sum := "4c5a844fa033159aa9bc1563e8dd7a726356f4565d4f800dc49b860f3f9fce65", func := "loop.example/ringoverlay/laws.FnStabilizeOthers", spec := "fnStabilizeOthers", unfollowed := true, recurses := true, apart := false }
def FnStabilizeOthersSaid : Prop := fnStabilizeOthersRow.holds Try.pinned (OpenSpec.ofChange fnStabilizeOthersSpec)

/-- ITS FALSE NEIGHBOUR: 'it returns false'. Refute it at one input. -/
def fnStabilizeOthersWrong : ChangeSpec := { name := "fnStabilizeOthers", fn := fun _ => fun
  | [d] => { results := [.lit (.bool false)], args := [d] }
  | _ => none }
def FnStabilizeOthersWrongFalsely : Prop := fnStabilizeOthersRow.holds Try.pinned (OpenSpec.ofChange fnStabilizeOthersWrong)

/-- 'laws.FnStabilizeLive': WHATEVER THE INPUT: true; the input reads as it did. -/
def fnStabilizeLiveSpec : ChangeSpec := { name := "fnStabilizeLive", fn := fun _ => fun
  | [d] => { results := [.lit (.bool true)], args := [d] }
  | _ => none }
def fnStabilizeLiveRow : OpenClaim := { program := "ytojpfbbgpcafnaa", sum := "4c5a844fa033159aa9bc1563e8dd7a726356f4565d4f800dc49b860f3f9fce65", func := "loop.example/ringoverlay/laws.FnStabilizeLive", spec := "fnStabilizeLive", unfollowed := true, recurses := true, apart := false }
def FnStabilizeLiveSaid : Prop := fnStabilizeLiveRow.holds Try.pinned (OpenSpec.ofChange fnStabilizeLiveSpec)

/-- ITS FALSE NEIGHBOUR: 'it returns false'. Refute it at one input. -/
def fnStabilizeLiveWrong : ChangeSpec := { name := "fnStabilizeLive", fn := fun _ => fun
  | [d] => { results := [.lit (.bool false)], args := [d] }
  | _ => none }
def FnStabilizeLiveWrongFalsely : Prop := fnStabilizeLiveRow.holds Try.pinned (OpenSpec.ofChange fnStabilizeLiveWrong)

/-- 'laws.FnStabilizeNear': WHATEVER THE INPUT: true; the input reads as it did. -/
def fnStabilizeNearSpec : ChangeSpec := { name := "fnStabilizeNear", fn := fun _ => fun
  | [d] => { results := [.lit (.bool true)], args := [d] }
  | _ => none }
def fnStabilizeNearRow : OpenClaim := { program := "ytojpfbbgpcafnaa", sum := "4c5a844fa033159aa9bc1563e8dd7a726356f4565d4f800dc49b860f3f9fce65", func := "loop.example/ringoverlay/laws.FnStabilizeNear", spec := "fnStabilizeNear", unfollowed := true, recurses := true, apart := false }
def FnStabilizeNearSaid : Prop := fnStabilizeNearRow.holds Try.pinned (OpenSpec.ofChange fnStabilizeNearSpec)

/-- ITS FALSE NEIGHBOUR: 'it returns false'. Refute it at one input. -/
def fnStabilizeNearWrong : ChangeSpec := { name := "fnStabilizeNear", fn := fun _ => fun
  | [d] => { results := [.lit (.bool false)], args := [d] }
  | _ => none }
def FnStabilizeNearWrongFalsely : Prop := fnStabilizeNearRow.holds Try.pinned (OpenSpec.ofChange fnStabilizeNearWrong)

/-- 'laws.FnRound': WHATEVER THE INPUT: true; the input reads as it did. -/
def fnRoundSpec : ChangeSpec := { name := "fnRound", fn := fun _ => fun
  | [d] => { results := [.lit (.bool true)], args := [d] }
  | _ => none }
def fnRoundRow : OpenClaim := { program := "ytojpfbbgpcafnaa", sum := "4c5a844fa033159aa9bc1563e8dd7a726356f4565d4f800dc49b860f3f9fce65", func := "loop.example/ringoverlay/laws.FnRound", spec := "fnRound", unfollowed := true, recurses := true, apart := false }
def FnRoundSaid : Prop := fnRoundRow.holds Try.pinned (OpenSpec.ofChange fnRoundSpec)

/-- ITS FALSE NEIGHBOUR: 'it returns false'. Refute it at one input. -/
def fnRoundWrong : ChangeSpec := { name := "fnRound", fn := fun _ => fun
  | [d] => { results := [.lit (.bool false)], args := [d] }
  | _ => none }
def FnRoundWrongFalsely : Prop := fnRoundRow.holds Try.pinned (OpenSpec.ofChange fnRoundWrong)

/-- 'laws.FnSafeStabilize': WHATEVER THE INPUT: true; the input reads as it did. -/
def fnSafeStabilizeSpec : ChangeSpec := { name := "fnSafeStabilize", fn := fun _ => fun
  | [d] => { results := [.lit (.bool true)], args := [d] }
  | _ => none }
def fnSafeStabilizeRow : OpenClaim := { program := "ytojpfbbgpcafnaa", sum := "4c5a844fa033159aa9bc1563e8dd7a726356f4565d4f800dc49b860f3f9fce65", func := "loop.example/ringoverlay/laws.FnSafeStabilize", spec := "fnSafeStabilize", unfollowed := true, recurses := true, apart := false }
def FnSafeStabilizeSaid : Prop := fnSafeStabilizeRow.holds Try.pinned (OpenSpec.ofChange fnSafeStabilizeSpec)

/-- ITS FALSE NEIGHBOUR: 'it returns false'. Refute it at one input. -/
def fnSafeStabilizeWrong : ChangeSpec := { name := "fnSafeStabilize", fn := fun _ => fun
  | [d] => { results := [.lit (.bool false)], args := [d] }
  | _ => none }
def FnSafeStabilizeWrongFalsely : Prop := fnSafeStabilizeRow.holds Try.pinned (OpenSpec.ofChange fnSafeStabilizeWrong)

/-- 'laws.FnJoin': WHATEVER THE INPUT: true; the input reads as it did. -/
def fnJoinSpec : ChangeSpec := { name := "fnJoin", fn := fun _ => fun
  | [d] => { results := [.lit (.bool true)], args := [d] }
  | _ => none }
def fnJoinRow : OpenClaim := { program := "ytojpfbbgpcafnaa", sum := "4c5a844fa033159aa9bc1563e8dd7a726356f4565d4f800dc49b860f3f9fce65", func := "loop.example/ringoverlay/laws.FnJoin", spec := "fnJoin", inPlace := ["slices.overlaps[loop.example/ringoverlay/impl.Node]"], unfollowed := true, recurses := true, apart := false }
def FnJoinSaid : Prop := fnJoinRow.holds Try.pinned (OpenSpec.ofChange fnJoinSpec)

/-- ITS FALSE NEIGHBOUR: 'it returns false'. Refute it at one input. -/
def fnJoinWrong : ChangeSpec := { name := "fnJoin", fn := fun _ => fun
  | [d] => { results := [.lit (.bool false)], args := [d] }
  | _ => none }
def FnJoinWrongFalsely : Prop := fnJoinRow.holds Try.pinned (OpenSpec.ofChange fnJoinWrong)

/-- 'laws.FnJoinRefused': WHATEVER THE INPUT: true; the input reads as it did. -/
def fnJoinRefusedSpec : ChangeSpec := { name := "fnJoinRefused", fn := fun _ => fun
  | [d] => { results := [.lit (.bool true)], args := [d] }
  | _ => none }
def fnJoinRefusedRow : OpenClaim := { program := "ytojpfbbgpcafnaa", sum := "4c5a844fa033159aa9bc1563e8dd7a726356f4565d4f800dc49b860f3f9fce65", func := "loop.example/ringoverlay/laws.FnJoinRefused", spec := "fnJoinRefused", inPlace := ["slices.overlaps[loop.example/ringoverlay/impl.Node]"], unfollowed := true, recurses := true, apart := false }
def FnJoinRefusedSaid : Prop := fnJoinRefusedRow.holds Try.pinned (OpenSpec.ofChange fnJoinRefusedSpec)

/-- ITS FALSE NEIGHBOUR: 'it returns false'. Refute it at one input. -/
def fnJoinRefusedWrong : ChangeSpec := { name := "fnJoinRefused", fn := fun _ => fun
  | [d] => { results := [.lit (.bool false)], args := [d] }
  | _ => none }
def FnJoinRefusedWrongFalsely : Prop := fnJoinRefusedRow.holds Try.pinned (OpenSpec.ofChange fnJoinRefusedWrong)

/- THE SECOND FORM. 'bulk': how many values and letters a reading holds, each counted each time it is reached (what is shared counts as often as it is met; a slice's spare places count too). A statement '..UptoSaid' is the law's where the arguments, and the package variables that the reading takes, are together of bulk at most 1048576: NARROWER than '..Said'. Prove '..Said' where nothing that the law and all that it calls make is longer than what came in: it says more and counts as full. Else prove '..UptoSaid'. A law counts once. -/
mutual
def uptoBulk {H : Type} : DataW H → Nat
  | .lit (.string bytes) => bytes.length + 1
  | .lit _ => 1
  | .nil => 1
  | .ptr d => uptoBulk d + 1
  | .slice elems spare => uptoBulkAll elems + uptoBulkAll spare + 1
  | .agg parts => uptoBulkAll parts + 1
  | .iface _ d => uptoBulk d + 1
  | .map entries => uptoBulkEntries entries + 1
  | .held _ => 1
def uptoBulkAll {H : Type} : List (DataW H) → Nat
  | [] => 0
  | d :: r => uptoBulk d + uptoBulkAll r
def uptoBulkEntries {H : Type} : List (Lit × DataW H) → Nat
  | [] => 0
  | x :: r => uptoBulkEntry x + uptoBulkEntries r
def uptoBulkEntry {H : Type} : Lit × DataW H → Nat
  | (.string bytes, d) => bytes.length + uptoBulk d + 1
  | (_, d) => uptoBulk d + 1
 end
def uptoSmall : (H : Type) → List (DataW H) → Bool := fun _ ds => decide (uptoBulkAll ds ≤ 1048576)
def OpenSpec.upto (s : _root_.Go.ChangeSpec) : _root_.Go.OpenSpec := { _root_.Go.OpenSpec.ofChange s with cond := some uptoSmall }

/-- 'laws.FnRoundIdeal', WHERE WHAT IT READS IS OF BULK AT MOST 1048576: true; the input reads as it did. -/
def fnRoundIdealUptoRow : OpenClaim := { program := "ytojpfbbgpcafnaa", sum := "4c5a844fa033159aa9bc1563e8dd7a726356f4565d4f800dc49b860f3f9fce65", func := "loop.example/ringoverlay/laws.FnRoundIdeal", spec := "fnRoundIdeal", unfollowed := true, recurses := true, apart := false, narrowed := true }
def FnRoundIdealUptoSaid : Prop := fnRoundIdealUptoRow.holds Try.pinned (OpenSpec.upto fnRoundIdealSpec)

/-- 'laws.FnCalmSteps', WHERE WHAT IT READS IS OF BULK AT MOST 1048576: true; the input reads as it did. -/
def fnCalmStepsUptoRow : OpenClaim := { program := "ytojpfbbgpcafnaa", sum := "4c5a844fa033159aa9bc1563e8dd7a726356f4565d4f800dc49b860f3f9fce65", func := "loop.example/ringoverlay/laws.FnCalmSteps", spec := "fnCalmSteps", unfollowed := true, recurses := true, apart := false, narrowed := true }
def FnCalmStepsUptoSaid : Prop := fnCalmStepsUptoRow.holds Try.pinned (OpenSpec.upto fnCalmStepsSpec)

/-- 'laws.FnIdealSteps', WHERE WHAT IT READS IS OF BULK AT MOST 1048576: true; the input reads as it did. -/
def fnIdealStepsUptoRow : OpenClaim := { program := "ytojpfbbgpcafnaa", sum := "4c5a844fa033159aa9bc1563e8dd7a726356f4565d4f800dc49b860f3f9fce65", func := "loop.example/ringoverlay/laws.FnIdealSteps", spec := "fnIdealSteps", unfollowed := true, recurses := true, apart := false, narrowed := true }
def FnIdealStepsUptoSaid : Prop := fnIdealStepsUptoRow.holds Try.pinned (OpenSpec.upto fnIdealStepsSpec)

/-- 'laws.FnStabilizeOthers', WHERE WHAT IT READS IS OF BULK AT MOST 1048576: true; the input reads as it did. -/
def fnStabilizeOthersUptoRow : OpenClaim := { program := "ytojpfbbgpcafnaa", sum := "4c5a844fa033159aa9bc1563e8dd7a726356f4565d4f800dc49b860f3f9fce65", func := "loop.example/ringoverlay/laws.FnStabilizeOthers", spec := "fnStabilizeOthers", unfollowed := true, recurses := true, apart := false, narrowed := true }
def FnStabilizeOthersUptoSaid : Prop := fnStabilizeOthersUptoRow.holds Try.pinned (OpenSpec.upto fnStabilizeOthersSpec)

/-- 'laws.FnStabilizeLive', WHERE WHAT IT READS IS OF BULK AT MOST 1048576: true; the input reads as it did. -/
def fnStabilizeLiveUptoRow : OpenClaim := { program := "ytojpfbbgpcafnaa", sum := "4c5a844fa033159aa9bc1563e8dd7a726356f4565d4f800dc49b860f3f9fce65", func := "loop.example/ringoverlay/laws.FnStabilizeLive", spec := "fnStabilizeLive", unfollowed := true, recurses := true, apart := false, narrowed := true }
def FnStabilizeLiveUptoSaid : Prop := fnStabilizeLiveUptoRow.holds Try.pinned (OpenSpec.upto fnStabilizeLiveSpec)

/-- 'laws.FnStabilizeNear', WHERE WHAT IT READS IS OF BULK AT MOST 1048576: true; the input reads as it did. -/
def fnStabilizeNearUptoRow : OpenClaim := { program := "ytojpfbbgpcafnaa", sum := "4c5a844fa033159aa9bc1563e8dd7a726356f4565d4f800dc49b860f3f9fce65", func := "loop.example/ringoverlay/laws.FnStabilizeNear", spec := "fnStabilizeNear", unfollowed := true, recurses := true, apart := false, narrowed := true }
def FnStabilizeNearUptoSaid : Prop := fnStabilizeNearUptoRow.holds Try.pinned (OpenSpec.upto fnStabilizeNearSpec)

/-- 'laws.FnRound', WHERE WHAT IT READS IS OF BULK AT MOST 1048576: true; the input reads as it did. -/
def fnRoundUptoRow : OpenClaim := { program := "ytojpfbbgpcafnaa", sum := "4c5a844fa033159aa9bc1563e8dd7a726356f4565d4f800dc49b860f3f9fce65", func := "loop.example/ringoverlay/laws.FnRound", spec := "fnRound", unfollowed := true, recurses := true, apart := false, narrowed := true }
def FnRoundUptoSaid : Prop := fnRoundUptoRow.holds Try.pinned (OpenSpec.upto fnRoundSpec)

/-- 'laws.FnSafeStabilize', WHERE WHAT IT READS IS OF BULK AT MOST 1048576: true; the input reads as it did. -/
def fnSafeStabilizeUptoRow : OpenClaim := { program := "ytojpfbbgpcafnaa", sum := "4c5a844fa033159aa9bc1563e8dd7a726356f4565d4f800dc49b860f3f9fce65", func := "loop.example/ringoverlay/laws.FnSafeStabilize", spec := "fnSafeStabilize", unfollowed := true, recurses := true, apart := false, narrowed := true }
def FnSafeStabilizeUptoSaid : Prop := fnSafeStabilizeUptoRow.holds Try.pinned (OpenSpec.upto fnSafeStabilizeSpec)

/-- 'laws.FnJoin', WHERE WHAT IT READS IS OF BULK AT MOST 1048576: true; the input reads as it did. -/
def fnJoinUptoRow : OpenClaim := { program := "ytojpfbbgpcafnaa", sum := "4c5a844fa033159aa9bc1563e8dd7a726356f4565d4f800dc49b860f3f9fce65", func := "loop.example/ringoverlay/laws.FnJoin", spec := "fnJoin", inPlace := ["slices.overlaps[loop.example/ringoverlay/impl.Node]"], unfollowed := true, recurses := true, apart := false, narrowed := true }
def FnJoinUptoSaid : Prop := fnJoinUptoRow.holds Try.pinned (OpenSpec.upto fnJoinSpec)

/-- 'laws.FnJoinRefused', WHERE WHAT IT READS IS OF BULK AT MOST 1048576: true; the input reads as it did. -/
def fnJoinRefusedUptoRow : OpenClaim := { program := "ytojpfbbgpcafnaa", sum := "4c5a844fa033159aa9bc1563e8dd7a726356f4565d4f800dc49b860f3f9fce65", func := "loop.example/ringoverlay/laws.FnJoinRefused", spec := "fnJoinRefused", inPlace := ["slices.overlaps[loop.example/ringoverlay/impl.Node]"], unfollowed := true, recurses := true, apart := false, narrowed := true }
def FnJoinRefusedUptoSaid : Prop := fnJoinRefusedUptoRow.holds Try.pinned (OpenSpec.upto fnJoinRefusedSpec)

end Rows
end Go.Proofs.Ytojpfbbgpcafnaa
