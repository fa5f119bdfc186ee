/-
  No cell of these rows narrows 'for every input' (looked for: loops, veiled, ifaces, maps, wideKeys, modest, calm, conditions, laid).
  DERIVED. THE GIVEN ROWS OF THIS SEAT. 9 by the template 'for every input the law returns true; each argument reads behind the call as it read before'; 0 by the template 'total and deterministic' (their statements: YtfgfoikcpijjdaaTotals.lean).
  GIVEN WITH THE SEED: the statements are not yours to turn. If you find one false, say at which input.
  Laid BY PROGRAM, IN A SANDBOX (cutbox-rows.mjs): the forced cells as the released guide's own fill.sh prints them over the translation 90d10fafbded2e42… (all of the seat's roots in one cut). By AI agents, Wed Nov 11 2026. No macro, syntax, notation, axiom, sorry.
-/
import Derived.Test.YtfgfoikcpijjdaaChecked
import GoSem.Claim
import GoSem.ClaimJoined
import GoSem.ClaimMapViews
import Derived.JoinedTies
import Derived.KernelRfl
namespace Go.Proofs.Ytfgfoikcpijjdaa
/- THE CELL 'sum', in the pinned program and in every row, IS THE sha256 OF THE DUMP (.gsa) THAT YtfgfoikcpijjdaaProg.lean LOADS. Nothing in Lean hashes anything: it is a label: what it is worth is what the hold of that sum in a sandbox is worth. -/
noncomputable def Try.pinned : Pinned := { name := "ytfgfoikcpijjdaa", sum := "90d10fafbded2e427931b46a4ee0b62e713815b8b45ff4b60fd54cacaf7dfed1", checked := Try.checked }
namespace Rows
def none {H : Type} : Left H := { results := [], args := [] }

/-- 'laws.FnExactRingFail': WHATEVER THE INPUT: true; the input reads as it did. -/
def fnExactRingFailSpec : ChangeSpec := { name := "fnExactRingFail", fn := fun _ => fun
  | [d1, d2] => { results := [.lit (.bool true)], args := [d1, d2] }
  | _ => none }
def fnExactRingFailRow : OpenClaim := { program := "ytfgfoikcpijjdaa", sum := "90d10fafbded2e427931b46a4ee0b62e713815b8b45ff4b60fd54cacaf7dfed1", func := "loop.example/ringoverlay/laws.FnExactRingFail", spec := "fnExactRingFail", unfollowed := true, recurses := true, apart := false }
def FnExactRingFailSaid : Prop := fnExactRingFailRow.holds Try.pinned (OpenSpec.ofChange fnExactRingFailSpec)

/-- ITS FALSE NEIGHBOUR: 'it returns false'. Refute it at one input. -/
def fnExactRingFailWrong : ChangeSpec := { name := "fnExactRingFail", fn := fun _ => fun
  | [d1, d2] => { results := [.lit (.bool false)], args := [d1, d2] }
  | _ => none }
def FnExactRingFailWrongFalsely : Prop := fnExactRingFailRow.holds Try.pinned (OpenSpec.ofChange fnExactRingFailWrong)

/-- 'laws.FnExactRingDrop': WHATEVER THE INPUT: true; the input reads as it did. -/
def fnExactRingDropSpec : ChangeSpec := { name := "fnExactRingDrop", fn := fun _ => fun
  | [d1, d2] => { results := [.lit (.bool true)], args := [d1, d2] }
  | _ => none }
def fnExactRingDropRow : OpenClaim := { program := "ytfgfoikcpijjdaa", sum := "90d10fafbded2e427931b46a4ee0b62e713815b8b45ff4b60fd54cacaf7dfed1", func := "loop.example/ringoverlay/laws.FnExactRingDrop", spec := "fnExactRingDrop", unfollowed := true, recurses := true, apart := false }
def FnExactRingDropSaid : Prop := fnExactRingDropRow.holds Try.pinned (OpenSpec.ofChange fnExactRingDropSpec)

/-- ITS FALSE NEIGHBOUR: 'it returns false'. Refute it at one input. -/
def fnExactRingDropWrong : ChangeSpec := { name := "fnExactRingDrop", fn := fun _ => fun
  | [d1, d2] => { results := [.lit (.bool false)], args := [d1, d2] }
  | _ => none }
def FnExactRingDropWrongFalsely : Prop := fnExactRingDropRow.holds Try.pinned (OpenSpec.ofChange fnExactRingDropWrong)

/-- 'laws.FnExactRingNotify': WHATEVER THE INPUT: true; the input reads as it did. -/
def fnExactRingNotifySpec : ChangeSpec := { name := "fnExactRingNotify", fn := fun _ => fun
  | [d1, d2, d3] => { results := [.lit (.bool true)], args := [d1, d2, d3] }
  | _ => none }
def fnExactRingNotifyRow : OpenClaim := { program := "ytfgfoikcpijjdaa", sum := "90d10fafbded2e427931b46a4ee0b62e713815b8b45ff4b60fd54cacaf7dfed1", func := "loop.example/ringoverlay/laws.FnExactRingNotify", spec := "fnExactRingNotify", unfollowed := true, recurses := true, apart := false }
def FnExactRingNotifySaid : Prop := fnExactRingNotifyRow.holds Try.pinned (OpenSpec.ofChange fnExactRingNotifySpec)

/-- ITS FALSE NEIGHBOUR: 'it returns false'. Refute it at one input. -/
def fnExactRingNotifyWrong : ChangeSpec := { name := "fnExactRingNotify", fn := fun _ => fun
  | [d1, d2, d3] => { results := [.lit (.bool false)], args := [d1, d2, d3] }
  | _ => none }
def FnExactRingNotifyWrongFalsely : Prop := fnExactRingNotifyRow.holds Try.pinned (OpenSpec.ofChange fnExactRingNotifyWrong)

/-- 'laws.FnExactRingCloser': WHATEVER THE INPUT: true; the input reads as it did. -/
def fnExactRingCloserSpec : ChangeSpec := { name := "fnExactRingCloser", fn := fun _ => fun
  | [d1, d2, d3] => { results := [.lit (.bool true)], args := [d1, d2, d3] }
  | _ => none }
def fnExactRingCloserRow : OpenClaim := { program := "ytfgfoikcpijjdaa", sum := "90d10fafbded2e427931b46a4ee0b62e713815b8b45ff4b60fd54cacaf7dfed1", func := "loop.example/ringoverlay/laws.FnExactRingCloser", spec := "fnExactRingCloser", unfollowed := true, recurses := true, apart := false }
def FnExactRingCloserSaid : Prop := fnExactRingCloserRow.holds Try.pinned (OpenSpec.ofChange fnExactRingCloserSpec)

/-- ITS FALSE NEIGHBOUR: 'it returns false'. Refute it at one input. -/
def fnExactRingCloserWrong : ChangeSpec := { name := "fnExactRingCloser", fn := fun _ => fun
  | [d1, d2, d3] => { results := [.lit (.bool false)], args := [d1, d2, d3] }
  | _ => none }
def FnExactRingCloserWrongFalsely : Prop := fnExactRingCloserRow.holds Try.pinned (OpenSpec.ofChange fnExactRingCloserWrong)

/-- 'laws.FnExactRingAdopt': WHATEVER THE INPUT: true; the input reads as it did. -/
def fnExactRingAdoptSpec : ChangeSpec := { name := "fnExactRingAdopt", fn := fun _ => fun
  | [d1, d2] => { results := [.lit (.bool true)], args := [d1, d2] }
  | _ => none }
def fnExactRingAdoptRow : OpenClaim := { program := "ytfgfoikcpijjdaa", sum := "90d10fafbded2e427931b46a4ee0b62e713815b8b45ff4b60fd54cacaf7dfed1", func := "loop.example/ringoverlay/laws.FnExactRingAdopt", spec := "fnExactRingAdopt", unfollowed := true, recurses := true, apart := false }
def FnExactRingAdoptSaid : Prop := fnExactRingAdoptRow.holds Try.pinned (OpenSpec.ofChange fnExactRingAdoptSpec)

/-- ITS FALSE NEIGHBOUR: 'it returns false'. Refute it at one input. -/
def fnExactRingAdoptWrong : ChangeSpec := { name := "fnExactRingAdopt", fn := fun _ => fun
  | [d1, d2] => { results := [.lit (.bool false)], args := [d1, d2] }
  | _ => none }
def FnExactRingAdoptWrongFalsely : Prop := fnExactRingAdoptRow.holds Try.pinned (OpenSpec.ofChange fnExactRingAdoptWrong)

/-- 'laws.FnExactRingStabilize': WHATEVER THE INPUT: true; the input reads as it did. -/
def fnExactRingStabilizeSpec : ChangeSpec := { name := "fnExactRingStabilize", fn := fun _ => fun
  | [d1, d2] => { results := [.lit (.bool true)], args := [d1, d2] }
  | _ => none }
def fnExactRingStabilizeRow : OpenClaim := { program := "ytfgfoikcpijjdaa", sum := "90d10fafbded2e427931b46a4ee0b62e713815b8b45ff4b60fd54cacaf7dfed1", func := "loop.example/ringoverlay/laws.FnExactRingStabilize", spec := "fnExactRingStabilize", unfollowed := true, recurses := true, apart := false }
def FnExactRingStabilizeSaid : Prop := fnExactRingStabilizeRow.holds Try.pinned (OpenSpec.ofChange fnExactRingStabilizeSpec)

/-- ITS FALSE NEIGHBOUR: 'it returns false'. Refute it at one input. -/
def fnExactRingStabilizeWrong : ChangeSpec := { name := "fnExactRingStabilize", fn := fun _ => fun
  | [d1, d2] => { results := [.lit (.bool false)], args := [d1, d2] }
  | _ => none }
def FnExactRingStabilizeWrongFalsely : Prop := fnExactRingStabilizeRow.holds Try.pinned (OpenSpec.ofChange fnExactRingStabilizeWrong)

/-- 'laws.FnExactRingJoin': WHATEVER THE INPUT: true; the input reads as it did. -/
def fnExactRingJoinSpec : ChangeSpec := { name := "fnExactRingJoin", fn := fun _ => fun
  | [d1, d2, d3] => { results := [.lit (.bool true)], args := [d1, d2, d3] }
  | _ => none }
def fnExactRingJoinRow : OpenClaim := { program := "ytfgfoikcpijjdaa", sum := "90d10fafbded2e427931b46a4ee0b62e713815b8b45ff4b60fd54cacaf7dfed1", func := "loop.example/ringoverlay/laws.FnExactRingJoin", spec := "fnExactRingJoin", inPlace := ["slices.overlaps[loop.example/ringoverlay/impl.Node]"], unfollowed := true, recurses := true, apart := false }
def FnExactRingJoinSaid : Prop := fnExactRingJoinRow.holds Try.pinned (OpenSpec.ofChange fnExactRingJoinSpec)

/-- ITS FALSE NEIGHBOUR: 'it returns false'. Refute it at one input. -/
def fnExactRingJoinWrong : ChangeSpec := { name := "fnExactRingJoin", fn := fun _ => fun
  | [d1, d2, d3] => { results := [.lit (.bool false)], args := [d1, d2, d3] }
  | _ => none }
def FnExactRingJoinWrongFalsely : Prop := fnExactRingJoinRow.holds Try.pinned (OpenSpec.ofChange fnExactRingJoinWrong)

/-- 'laws.FnExactRingRound': WHATEVER THE INPUT: true; the input reads as it did. -/
def fnExactRingRoundSpec : ChangeSpec := { name := "fnExactRingRound", fn := fun _ => fun
  | [d] => { results := [.lit (.bool true)], args := [d] }
  | _ => none }
def fnExactRingRoundRow : OpenClaim := { program := "ytfgfoikcpijjdaa", sum := "90d10fafbded2e427931b46a4ee0b62e713815b8b45ff4b60fd54cacaf7dfed1", func := "loop.example/ringoverlay/laws.FnExactRingRound", spec := "fnExactRingRound", unfollowed := true, recurses := true, apart := false }
def FnExactRingRoundSaid : Prop := fnExactRingRoundRow.holds Try.pinned (OpenSpec.ofChange fnExactRingRoundSpec)

/-- ITS FALSE NEIGHBOUR: 'it returns false'. Refute it at one input. -/
def fnExactRingRoundWrong : ChangeSpec := { name := "fnExactRingRound", fn := fun _ => fun
  | [d] => { results := [.lit (.bool false)], args := [d] }
  | _ => none }
def FnExactRingRoundWrongFalsely : Prop := fnExactRingRoundRow.holds Try.pinned (OpenSpec.ofChange fnExactRingRoundWrong)

/-- 'laws.FnExactRingCalm': WHATEVER THE INPUT: true; the input reads as it did. -/
def fnExactRingCalmSpec : ChangeSpec := { name := "fnExactRingCalm", fn := fun _ => fun
  | [d] => { results := [.lit (.bool true)], args := [d] }
  | _ => none }
def fnExactRingCalmRow : OpenClaim := { program := "ytfgfoikcpijjdaa", sum := "90d10fafbded2e427931b46a4ee0b62e713815b8b45ff4b60fd54cacaf7dfed1", func := "loop.example/ringoverlay/laws.FnExactRingCalm", spec := "fnExactRingCalm", unfollowed := true, recurses := true, apart := false }
def FnExactRingCalmSaid : Prop := fnExactRingCalmRow.holds Try.pinned (OpenSpec.ofChange fnExactRingCalmSpec)

/-- ITS FALSE NEIGHBOUR: 'it returns false'. Refute it at one input. -/
def fnExactRingCalmWrong : ChangeSpec := { name := "fnExactRingCalm", fn := fun _ => fun
  | [d] => { results := [.lit (.bool false)], args := [d] }
  | _ => none }
def FnExactRingCalmWrongFalsely : Prop := fnExactRingCalmRow.holds Try.pinned (OpenSpec.ofChange fnExactRingCalmWrong)

/- THE SECOND FORM. 'bulk': how many values and letters a reading holds, each counted each time it is reached (what is shared counts as often as it is met; a slice's spare places count too). A statement '..UptoSaid' is the law's where the arguments, and the package variables that the reading takes, are together of bulk at most 1048576: NARROWER than '..Said'. Prove '..Said' where nothing that the law and all that it calls make is longer than what came in: it says more and counts as full. Else prove '..UptoSaid'. A law counts once. -/
mutual
def uptoBulk {H : Type} : DataW H → Nat
  | .lit (.string bytes) => bytes.length + 1
  | .lit _ => 1
  | .nil => 1
  | .ptr d => uptoBulk d + 1
  | .slice elems spare => uptoBulkAll elems + uptoBulkAll spare + 1
  | .agg parts => uptoBulkAll parts + 1
  | .iface _ d => uptoBulk d + 1
  | .map entries => uptoBulkEntries entries + 1
  | .held _ => 1
def uptoBulkAll {H : Type} : List (DataW H) → Nat
  | [] => 0
  | d :: r => uptoBulk d + uptoBulkAll r
def uptoBulkEntries {H : Type} : List (Lit × DataW H) → Nat
  | [] => 0
  | x :: r => uptoBulkEntry x + uptoBulkEntries r
def uptoBulkEntry {H : Type} : Lit × DataW H → Nat
  | (.string bytes, d) => bytes.length + uptoBulk d + 1
  | (_, d) => uptoBulk d + 1
 end
def uptoSmall : (H : Type) → List (DataW H) → Bool := fun _ ds => decide (uptoBulkAll ds ≤ 1048576)
def OpenSpec.upto (s : _root_.Go.ChangeSpec) : _root_.Go.OpenSpec := { _root_.Go.OpenSpec.ofChange s with cond := some uptoSmall }

/-- 'laws.FnExactRingFail', WHERE WHAT IT READS IS OF BULK AT MOST 1048576: true; the input reads as it did. -/
def fnExactRingFailUptoRow : OpenClaim := { program := "ytfgfoikcpijjdaa", sum := "90d10fafbded2e427931b46a4ee0b62e713815b8b45ff4b60fd54cacaf7dfed1", func := "loop.example/ringoverlay/laws.FnExactRingFail", spec := "fnExactRingFail", unfollowed := true, recurses := true, apart := false, narrowed := true }
def FnExactRingFailUptoSaid : Prop := fnExactRingFailUptoRow.holds Try.pinned (OpenSpec.upto fnExactRingFailSpec)

/-- 'laws.FnExactRingDrop', WHERE WHAT IT READS IS OF BULK AT MOST 1048576: true; the input reads as it did. -/
def fnExactRingDropUptoRow : OpenClaim := { program := "ytfgfoikcpijjdaa", sum := "90d10fafbded2e427931b46a4ee0b62e713815b8b45ff4b60fd54cacaf7dfed1", func := "loop.example/ringoverlay/laws.FnExactRingDrop", spec := "fnExactRingDrop", unfollowed := true, recurses := true, apart := false, narrowed := true }
def FnExactRingDropUptoSaid : Prop := fnExactRingDropUptoRow.holds Try.pinned (OpenSpec.upto fnExactRingDropSpec)

/-- 'laws.FnExactRingNotify', WHERE WHAT IT READS IS OF BULK AT MOST 1048576: true; the input reads as it did. -/
def fnExactRingNotifyUptoRow : OpenClaim := { program := "ytfgfoikcpijjdaa", sum := "90d10fafbded2e427931b46a4ee0b62e713815b8b45ff4b60fd54cacaf7dfed1", func := "loop.example/ringoverlay/laws.FnExactRingNotify", spec := "fnExactRingNotify", unfollowed := true, recurses := true, apart := false, narrowed := true }
def FnExactRingNotifyUptoSaid : Prop := fnExactRingNotifyUptoRow.holds Try.pinned (OpenSpec.upto fnExactRingNotifySpec)

/-- 'laws.FnExactRingCloser', WHERE WHAT IT READS IS OF BULK AT MOST 1048576: true; the input reads as it did. -/
def fnExactRingCloserUptoRow : OpenClaim := { program := "ytfgfoikcpijjdaa", sum := "90d10fafbded2e427931b46a4ee0b62e713815b8b45ff4b60fd54cacaf7dfed1", func := "loop.example/ringoverlay/laws.FnExactRingCloser", spec := "fnExactRingCloser", unfollowed := true, recurses := true, apart := false, narrowed := true }
def FnExactRingCloserUptoSaid : Prop := fnExactRingCloserUptoRow.holds Try.pinned (OpenSpec.upto fnExactRingCloserSpec)

/-- 'laws.FnExactRingAdopt', WHERE WHAT IT READS IS OF BULK AT MOST 1048576: true; the input reads as it did. -/
def fnExactRingAdoptUptoRow : OpenClaim := { program := "ytfgfoikcpijjdaa", sum := "90d10fafbded2e427931b46a4ee0b62e713815b8b45ff4b60fd54cacaf7dfed1", func := "loop.example/ringoverlay/laws.FnExactRingAdopt", spec := "fnExactRingAdopt", unfollowed := true, recurses := true, apart := false, narrowed := true }
def FnExactRingAdoptUptoSaid : Prop := fnExactRingAdoptUptoRow.holds Try.pinned (OpenSpec.upto fnExactRingAdoptSpec)

/-- 'laws.FnExactRingStabilize', WHERE WHAT IT READS IS OF BULK AT MOST 1048576: true; the input reads as it did. -/
def fnExactRingStabilizeUptoRow : OpenClaim := { program := "ytfgfoikcpijjdaa", sum := "90d10fafbded2e427931b46a4ee0b62e713815b8b45ff4b60fd54cacaf7dfed1", func := "loop.example/ringoverlay/laws.FnExactRingStabilize", spec := "fnExactRingStabilize", unfollowed := true, recurses := true, apart := false, narrowed := true }
def FnExactRingStabilizeUptoSaid : Prop := fnExactRingStabilizeUptoRow.holds Try.pinned (OpenSpec.upto fnExactRingStabilizeSpec)

/-- 'laws.FnExactRingJoin', WHERE WHAT IT READS IS OF BULK AT MOST 1048576: true; the input reads as it did. -/
def fnExactRingJoinUptoRow : OpenClaim := { program := "ytfgfoikcpijjdaa", sum := "90d10fafbded2e427931b46a4ee0b62e713815b8b45ff4b60fd54cacaf7dfed1", func := "loop.example/ringoverlay/laws.FnExactRingJoin", spec := "fnExactRingJoin", inPlace := ["slices.overlaps[loop.example/ringoverlay/impl.Node]"], unfollowed := true, recurses := true, apart := false, narrowed := true }
def FnExactRingJoinUptoSaid : Prop := fnExactRingJoinUptoRow.holds Try.pinned (OpenSpec.upto fnExactRingJoinSpec)

/-- 'laws.FnExactRingRound', WHERE WHAT IT READS IS OF BULK AT MOST 1048576: true; the input reads as it did. -/
def fnExactRingRoundUptoRow : OpenClaim := { program := "ytfgfoikcpijjdaa", sum := "90d10fafbded2e427931b46a4ee0b62e713815b8b45ff4b60fd54cacaf7dfed1", func := "loop.example/ringoverlay/laws.FnExactRingRound", spec := "fnExactRingRound", unfollowed := true, recurses := true, apart := false, narrowed := true }
def FnExactRingRoundUptoSaid : Prop := fnExactRingRoundUptoRow.holds Try.pinned (OpenSpec.upto fnExactRingRoundSpec)

/-- 'laws.FnExactRingCalm', WHERE WHAT IT READS IS OF BULK AT MOST 1048576: true; the input reads as it did. -/
def fnExactRingCalmUptoRow : OpenClaim := { program := "ytfgfoikcpijjdaa", sum := "90d10fafbded2e427931b46a4ee0b62e713815b8b45ff4b60fd54cacaf7dfed1", func := "loop.example/ringoverlay/laws.FnExactRingCalm", spec := "fnExactRingCalm", unfollowed := true, recurses := true, apart := false, narrowed := true }
def FnExactRingCalmUptoSaid : Prop := fnExactRingCalmUptoRow.holds Try.pinned (OpenSpec.upto fnExactRingCalmSpec)

end Rows
end Go.Proofs.Ytfgfoikcpijjdaa
