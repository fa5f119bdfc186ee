/-
  No cell of these rows narrows 'for every input' (looked for: loops, veiled, ifaces, maps, wideKeys, modest, calm, conditions, laid).
  DERIVED. THE GIVEN ROWS OF THIS SEAT. 11 by the template 'for every input the law returns true; each argument reads behind the call as it read before'; 0 by the template 'total and deterministic' (their statements: YtadplndoopkdgaaTotals.lean).
  GIVEN WITH THE SEED: the statements are not yours to turn. If you find one false, say at which input.
  Laid BY PROGRAM, IN A SANDBOX (cutbox-rows.mjs): the forced cells as the released guide's own fill.sh prints them over the translation a71ac2ab40d93b75… (all of the seat's roots in one cut). By AI agents, Wed Nov 11 2026. No macro, syntax, notation, axiom, sorry.
-/
import Derived.Test.YtadplndoopkdgaaChecked
import GoSem.Claim
import GoSem.ClaimJoined
import GoSem.ClaimMapViews
import Derived.JoinedTies
import Derived.KernelRfl
namespace Go.Proofs.Ytadplndoopkdgaa
/- THE CELL 'sum', in the pinned program and in every row, IS THE sha256 OF THE DUMP (.gsa) THAT YtadplndoopkdgaaProg.lean LOADS. Nothing in Lean hashes anything: it is a label: what it is worth is what the hold of that sum in a sandbox is worth. -/
noncomputable def Try.pinned : Pinned := { name := "ytadplndoopkdgaa", sum := "a71ac2ab40d93b75eefef7f016604629107a5fc357717dc02c82c589f9a65f04", checked := Try.checked }
namespace Rows
def none {H : Type} : Left H := { results := [], args := [] }

/-- 'laws.FnCloser': WHATEVER THE INPUT: true; the input reads as it did. -/
def fnCloserSpec : ChangeSpec := { name := "fnCloser", fn := fun _ => fun
  | [d] => { results := [.lit (.bool true)], args := [d] }
  | _ => none }
def fnCloserRow : OpenClaim := { program := "ytadplndoopkdgaa", sum := "a71ac2ab40d93b75eefef7f016604629107a5fc357717dc02c82c589f9a65f04", func := "loop.example/ringoverlay/laws.FnCloser", spec := "fnCloser", unfollowed := true, recurses := true, apart := false }
def FnCloserSaid : Prop := fnCloserRow.holds Try.pinned (OpenSpec.ofChange fnCloserSpec)

/-- ITS FALSE NEIGHBOUR: 'it returns false'. Refute it at one input. -/
def fnCloserWrong : ChangeSpec := { name := "fnCloser", fn := fun _ => fun
  | [d] => { results := [.lit (.bool false)], args := [d] }
  | _ => none }
def FnCloserWrongFalsely : Prop := fnCloserRow.holds Try.pinned (OpenSpec.ofChange fnCloserWrong)

/-- 'laws.FnAdopt': WHATEVER THE INPUT: true; the input reads as it did. -/
def fnAdoptSpec : ChangeSpec := { name := "fnAdopt", fn := fun _ => fun
  | [d] => { results := [.lit (.bool true)], args := [d] }
  | _ => none }
def fnAdoptRow : OpenClaim := { program := "ytadplndoopkdgaa", sum := "a71ac2ab40d93b75eefef7f016604629107a5fc357717dc02c82c589f9a65f04", func := "loop.example/ringoverlay/laws.FnAdopt", spec := "fnAdopt", unfollowed := true, recurses := true, apart := false }
def FnAdoptSaid : Prop := fnAdoptRow.holds Try.pinned (OpenSpec.ofChange fnAdoptSpec)

/-- ITS FALSE NEIGHBOUR: 'it returns false'. Refute it at one input. -/
def fnAdoptWrong : ChangeSpec := { name := "fnAdopt", fn := fun _ => fun
  | [d] => { results := [.lit (.bool false)], args := [d] }
  | _ => none }
def FnAdoptWrongFalsely : Prop := fnAdoptRow.holds Try.pinned (OpenSpec.ofChange fnAdoptWrong)

/-- 'laws.FnDrop': WHATEVER THE INPUT: true; the input reads as it did. -/
def fnDropSpec : ChangeSpec := { name := "fnDrop", fn := fun _ => fun
  | [d] => { results := [.lit (.bool true)], args := [d] }
  | _ => none }
def fnDropRow : OpenClaim := { program := "ytadplndoopkdgaa", sum := "a71ac2ab40d93b75eefef7f016604629107a5fc357717dc02c82c589f9a65f04", func := "loop.example/ringoverlay/laws.FnDrop", spec := "fnDrop", unfollowed := true, recurses := true, apart := false }
def FnDropSaid : Prop := fnDropRow.holds Try.pinned (OpenSpec.ofChange fnDropSpec)

/-- ITS FALSE NEIGHBOUR: 'it returns false'. Refute it at one input. -/
def fnDropWrong : ChangeSpec := { name := "fnDrop", fn := fun _ => fun
  | [d] => { results := [.lit (.bool false)], args := [d] }
  | _ => none }
def FnDropWrongFalsely : Prop := fnDropRow.holds Try.pinned (OpenSpec.ofChange fnDropWrong)

/-- 'laws.FnNotify': WHATEVER THE INPUT: true; the input reads as it did. -/
def fnNotifySpec : ChangeSpec := { name := "fnNotify", fn := fun _ => fun
  | [d] => { results := [.lit (.bool true)], args := [d] }
  | _ => none }
def fnNotifyRow : OpenClaim := { program := "ytadplndoopkdgaa", sum := "a71ac2ab40d93b75eefef7f016604629107a5fc357717dc02c82c589f9a65f04", func := "loop.example/ringoverlay/laws.FnNotify", spec := "fnNotify", unfollowed := true, recurses := true, apart := false }
def FnNotifySaid : Prop := fnNotifyRow.holds Try.pinned (OpenSpec.ofChange fnNotifySpec)

/-- ITS FALSE NEIGHBOUR: 'it returns false'. Refute it at one input. -/
def fnNotifyWrong : ChangeSpec := { name := "fnNotify", fn := fun _ => fun
  | [d] => { results := [.lit (.bool false)], args := [d] }
  | _ => none }
def FnNotifyWrongFalsely : Prop := fnNotifyRow.holds Try.pinned (OpenSpec.ofChange fnNotifyWrong)

/-- 'laws.FnFailRefused': WHATEVER THE INPUT: true; the input reads as it did. -/
def fnFailRefusedSpec : ChangeSpec := { name := "fnFailRefused", fn := fun _ => fun
  | [d] => { results := [.lit (.bool true)], args := [d] }
  | _ => none }
def fnFailRefusedRow : OpenClaim := { program := "ytadplndoopkdgaa", sum := "a71ac2ab40d93b75eefef7f016604629107a5fc357717dc02c82c589f9a65f04", func := "loop.example/ringoverlay/laws.FnFailRefused", spec := "fnFailRefused", unfollowed := true, recurses := true, apart := false }
def FnFailRefusedSaid : Prop := fnFailRefusedRow.holds Try.pinned (OpenSpec.ofChange fnFailRefusedSpec)

/-- ITS FALSE NEIGHBOUR: 'it returns false'. Refute it at one input. -/
def fnFailRefusedWrong : ChangeSpec := { name := "fnFailRefused", fn := fun _ => fun
  | [d] => { results := [.lit (.bool false)], args := [d] }
  | _ => none }
def FnFailRefusedWrongFalsely : Prop := fnFailRefusedRow.holds Try.pinned (OpenSpec.ofChange fnFailRefusedWrong)

/-- 'laws.FnSafeCloser': WHATEVER THE INPUT: true; the input reads as it did. -/
def fnSafeCloserSpec : ChangeSpec := { name := "fnSafeCloser", fn := fun _ => fun
  | [d] => { results := [.lit (.bool true)], args := [d] }
  | _ => none }
def fnSafeCloserRow : OpenClaim := { program := "ytadplndoopkdgaa", sum := "a71ac2ab40d93b75eefef7f016604629107a5fc357717dc02c82c589f9a65f04", func := "loop.example/ringoverlay/laws.FnSafeCloser", spec := "fnSafeCloser", unfollowed := true, recurses := true, apart := false }
def FnSafeCloserSaid : Prop := fnSafeCloserRow.holds Try.pinned (OpenSpec.ofChange fnSafeCloserSpec)

/-- ITS FALSE NEIGHBOUR: 'it returns false'. Refute it at one input. -/
def fnSafeCloserWrong : ChangeSpec := { name := "fnSafeCloser", fn := fun _ => fun
  | [d] => { results := [.lit (.bool false)], args := [d] }
  | _ => none }
def FnSafeCloserWrongFalsely : Prop := fnSafeCloserRow.holds Try.pinned (OpenSpec.ofChange fnSafeCloserWrong)

/-- 'laws.FnStepOne': WHATEVER THE INPUT: true; the input reads as it did. -/
def fnStepOneSpec : ChangeSpec := { name := "fnStepOne", fn := fun _ => fun
  | [d] => { results := [.lit (.bool true)], args := [d] }
  | _ => none }
def fnStepOneRow : OpenClaim := { program := "ytadplndoopkdgaa", sum := "a71ac2ab40d93b75eefef7f016604629107a5fc357717dc02c82c589f9a65f04", func := "loop.example/ringoverlay/laws.FnStepOne", spec := "fnStepOne", unfollowed := true, recurses := true, apart := false }
def FnStepOneSaid : Prop := fnStepOneRow.holds Try.pinned (OpenSpec.ofChange fnStepOneSpec)

/-- ITS FALSE NEIGHBOUR: 'it returns false'. Refute it at one input. -/
def fnStepOneWrong : ChangeSpec := { name := "fnStepOne", fn := fun _ => fun
  | [d] => { results := [.lit (.bool false)], args := [d] }
  | _ => none }
def FnStepOneWrongFalsely : Prop := fnStepOneRow.holds Try.pinned (OpenSpec.ofChange fnStepOneWrong)

/-- 'laws.FnSafeAdopt': WHATEVER THE INPUT: true; the input reads as it did. -/
def fnSafeAdoptSpec : ChangeSpec := { name := "fnSafeAdopt", fn := fun _ => fun
  | [d] => { results := [.lit (.bool true)], args := [d] }
  | _ => none }
def fnSafeAdoptRow : OpenClaim := { program := "ytadplndoopkdgaa", sum := "a71ac2ab40d93b75eefef7f016604629107a5fc357717dc02c82c589f9a65f04", func := "loop.example/ringoverlay/laws.FnSafeAdopt", spec := "fnSafeAdopt", unfollowed := true, recurses := true, apart := false }
def FnSafeAdoptSaid : Prop := fnSafeAdoptRow.holds Try.pinned (OpenSpec.ofChange fnSafeAdoptSpec)

/-- ITS FALSE NEIGHBOUR: 'it returns false'. Refute it at one input. -/
def fnSafeAdoptWrong : ChangeSpec := { name := "fnSafeAdopt", fn := fun _ => fun
  | [d] => { results := [.lit (.bool false)], args := [d] }
  | _ => none }
def FnSafeAdoptWrongFalsely : Prop := fnSafeAdoptRow.holds Try.pinned (OpenSpec.ofChange fnSafeAdoptWrong)

/-- 'laws.FnSafeDrop': WHATEVER THE INPUT: true; the input reads as it did. -/
def fnSafeDropSpec : ChangeSpec := { name := "fnSafeDrop", fn := fun _ => fun
  | [d] => { results := [.lit (.bool true)], args := [d] }
  | _ => none }
def fnSafeDropRow : OpenClaim := { program := "ytadplndoopkdgaa", sum := "a71ac2ab40d93b75eefef7f016604629107a5fc357717dc02c82c589f9a65f04", func := "loop.example/ringoverlay/laws.FnSafeDrop", spec := "fnSafeDrop", unfollowed := true, recurses := true, apart := false }
def FnSafeDropSaid : Prop := fnSafeDropRow.holds Try.pinned (OpenSpec.ofChange fnSafeDropSpec)

/-- ITS FALSE NEIGHBOUR: 'it returns false'. Refute it at one input. -/
def fnSafeDropWrong : ChangeSpec := { name := "fnSafeDrop", fn := fun _ => fun
  | [d] => { results := [.lit (.bool false)], args := [d] }
  | _ => none }
def FnSafeDropWrongFalsely : Prop := fnSafeDropRow.holds Try.pinned (OpenSpec.ofChange fnSafeDropWrong)

/-- 'laws.FnSafeNotify': WHATEVER THE INPUT: true; the input reads as it did. -/
def fnSafeNotifySpec : ChangeSpec := { name := "fnSafeNotify", fn := fun _ => fun
  | [d] => { results := [.lit (.bool true)], args := [d] }
  | _ => none }
def fnSafeNotifyRow : OpenClaim := { program := "ytadplndoopkdgaa", sum := "a71ac2ab40d93b75eefef7f016604629107a5fc357717dc02c82c589f9a65f04", func := "loop.example/ringoverlay/laws.FnSafeNotify", spec := "fnSafeNotify", unfollowed := true, recurses := true, apart := false }
def FnSafeNotifySaid : Prop := fnSafeNotifyRow.holds Try.pinned (OpenSpec.ofChange fnSafeNotifySpec)

/-- ITS FALSE NEIGHBOUR: 'it returns false'. Refute it at one input. -/
def fnSafeNotifyWrong : ChangeSpec := { name := "fnSafeNotify", fn := fun _ => fun
  | [d] => { results := [.lit (.bool false)], args := [d] }
  | _ => none }
def FnSafeNotifyWrongFalsely : Prop := fnSafeNotifyRow.holds Try.pinned (OpenSpec.ofChange fnSafeNotifyWrong)

/-- 'laws.FnSafeFail': WHATEVER THE INPUT: true; the input reads as it did. -/
def fnSafeFailSpec : ChangeSpec := { name := "fnSafeFail", fn := fun _ => fun
  | [d] => { results := [.lit (.bool true)], args := [d] }
  | _ => none }
def fnSafeFailRow : OpenClaim := { program := "ytadplndoopkdgaa", sum := "a71ac2ab40d93b75eefef7f016604629107a5fc357717dc02c82c589f9a65f04", func := "loop.example/ringoverlay/laws.FnSafeFail", spec := "fnSafeFail", unfollowed := true, recurses := true, apart := false }
def FnSafeFailSaid : Prop := fnSafeFailRow.holds Try.pinned (OpenSpec.ofChange fnSafeFailSpec)

/-- ITS FALSE NEIGHBOUR: 'it returns false'. Refute it at one input. -/
def fnSafeFailWrong : ChangeSpec := { name := "fnSafeFail", fn := fun _ => fun
  | [d] => { results := [.lit (.bool false)], args := [d] }
  | _ => none }
def FnSafeFailWrongFalsely : Prop := fnSafeFailRow.holds Try.pinned (OpenSpec.ofChange fnSafeFailWrong)

/- THE SECOND FORM. 'bulk': how many values and letters a reading holds, each counted each time it is reached (what is shared counts as often as it is met; a slice's spare places count too). A statement '..UptoSaid' is the law's where the arguments, and the package variables that the reading takes, are together of bulk at most 1048576: NARROWER than '..Said'. Prove '..Said' where nothing that the law and all that it calls make is longer than what came in: it says more and counts as full. Else prove '..UptoSaid'. A law counts once. -/
mutual
def uptoBulk {H : Type} : DataW H → Nat
  | .lit (.string bytes) => bytes.length + 1
  | .lit _ => 1
  | .nil => 1
  | .ptr d => uptoBulk d + 1
  | .slice elems spare => uptoBulkAll elems + uptoBulkAll spare + 1
  | .agg parts => uptoBulkAll parts + 1
  | .iface _ d => uptoBulk d + 1
  | .map entries => uptoBulkEntries entries + 1
  | .held _ => 1
def uptoBulkAll {H : Type} : List (DataW H) → Nat
  | [] => 0
  | d :: r => uptoBulk d + uptoBulkAll r
def uptoBulkEntries {H : Type} : List (Lit × DataW H) → Nat
  | [] => 0
  | x :: r => uptoBulkEntry x + uptoBulkEntries r
def uptoBulkEntry {H : Type} : Lit × DataW H → Nat
  | (.string bytes, d) => bytes.length + uptoBulk d + 1
  | (_, d) => uptoBulk d + 1
 end
def uptoSmall : (H : Type) → List (DataW H) → Bool := fun _ ds => decide (uptoBulkAll ds ≤ 1048576)
def OpenSpec.upto (s : _root_.Go.ChangeSpec) : _root_.Go.OpenSpec := { _root_.Go.OpenSpec.ofChange s with cond := some uptoSmall }

/-- 'laws.FnCloser', WHERE WHAT IT READS IS OF BULK AT MOST 1048576: true; the input reads as it did. -/
def fnCloserUptoRow : OpenClaim := { program := "ytadplndoopkdgaa", sum := "a71ac2ab40d93b75eefef7f016604629107a5fc357717dc02c82c589f9a65f04", func := "loop.example/ringoverlay/laws.FnCloser", spec := "fnCloser", unfollowed := true, recurses := true, apart := false, narrowed := true }
def FnCloserUptoSaid : Prop := fnCloserUptoRow.holds Try.pinned (OpenSpec.upto fnCloserSpec)

/-- 'laws.FnAdopt', WHERE WHAT IT READS IS OF BULK AT MOST 1048576: true; the input reads as it did. -/
def fnAdoptUptoRow : OpenClaim := { program := "ytadplndoopkdgaa", sum := "a71ac2ab40d93b75eefef7f016604629107a5fc357717dc02c82c589f9a65f04", func := "loop.example/ringoverlay/laws.FnAdopt", spec := "fnAdopt", unfollowed := true, recurses := true, apart := false, narrowed := true }
def FnAdoptUptoSaid : Prop := fnAdoptUptoRow.holds Try.pinned (OpenSpec.upto fnAdoptSpec)

/-- 'laws.FnDrop', WHERE WHAT IT READS IS OF BULK AT MOST 1048576: true; the input reads as it did. -/
def fnDropUptoRow : OpenClaim := { program := "ytadplndoopkdgaa", sum := "a71ac2ab40d93b75eefef7f016604629107a5fc357717dc02c82c589f9a65f04", func := "loop.example/ringoverlay/laws.FnDrop", spec := "fnDrop", unfollowed := true, recurses := true, apart := false, narrowed := true }
def FnDropUptoSaid : Prop := fnDropUptoRow.holds Try.pinned (OpenSpec.upto fnDropSpec)

/-- 'laws.FnNotify', WHERE WHAT IT READS IS OF BULK AT MOST 1048576: true; the input reads as it did. -/
def fnNotifyUptoRow : OpenClaim := { program := "ytadplndoopkdgaa", sum := "a71ac2ab40d93b75eefef7f016604629107a5fc357717dc02c82c589f9a65f04", func := "loop.example/ringoverlay/laws.FnNotify", spec := "fnNotify", unfollowed := true, recurses := true, apart := false, narrowed := true }
def FnNotifyUptoSaid : Prop := fnNotifyUptoRow.holds Try.pinned (OpenSpec.upto fnNotifySpec)

/-- 'laws.FnFailRefused', WHERE WHAT IT READS IS OF BULK AT MOST 1048576: true; the input reads as it did. -/
def fnFailRefusedUptoRow : OpenClaim := { program := "ytadplndoopkdgaa", sum := "a71ac2ab40d93b75eefef7f016604629107a5fc357717dc02c82c589f9a65f04", func := "loop.example/ringoverlay/laws.FnFailRefused", spec := "fnFailRefused", unfollowed := true, recurses := true, apart := false, narrowed := true }
def FnFailRefusedUptoSaid : Prop := fnFailRefusedUptoRow.holds Try.pinned (OpenSpec.upto fnFailRefusedSpec)

/-- 'laws.FnSafeCloser', WHERE WHAT IT READS IS OF BULK AT MOST 1048576: true; the input reads as it did. -/
def fnSafeCloserUptoRow : OpenClaim := { program := "ytadplndoopkdgaa", sum := "a71ac2ab40d93b75eefef7f016604629107a5fc357717dc02c82c589f9a65f04", func := "loop.example/ringoverlay/laws.FnSafeCloser", spec := "fnSafeCloser", unfollowed := true, recurses := true, apart := false, narrowed := true }
def FnSafeCloserUptoSaid : Prop := fnSafeCloserUptoRow.holds Try.pinned (OpenSpec.upto fnSafeCloserSpec)

/-- 'laws.FnStepOne', WHERE WHAT IT READS IS OF BULK AT MOST 1048576: true; the input reads as it did. -/
def fnStepOneUptoRow : OpenClaim := { program := "ytadplndoopkdgaa", sum := "a71ac2ab40d93b75eefef7f016604629107a5fc357717dc02c82c589f9a65f04", func := "loop.example/ringoverlay/laws.FnStepOne", spec := "fnStepOne", unfollowed := true, recurses := true, apart := false, narrowed := true }
def FnStepOneUptoSaid : Prop := fnStepOneUptoRow.holds Try.pinned (OpenSpec.upto fnStepOneSpec)

/-- 'laws.FnSafeAdopt', WHERE WHAT IT READS IS OF BULK AT MOST 1048576: true; the input reads as it did. -/
def fnSafeAdoptUptoRow : OpenClaim := { program := "ytadplndoopkdgaa", sum := "a71ac2ab40d93b75eefef7f016604629107a5fc357717dc02c82c589f9a65f04", func := "loop.example/ringoverlay/laws.FnSafeAdopt", spec := "fnSafeAdopt", unfollowed := true, recurses := true, apart := false, narrowed := true }
def FnSafeAdoptUptoSaid : Prop := fnSafeAdoptUptoRow.holds Try.pinned (OpenSpec.upto fnSafeAdoptSpec)

/-- 'laws.FnSafeDrop', WHERE WHAT IT READS IS OF BULK AT MOST 1048576: true; the input reads as it did. -/
def fnSafeDropUptoRow : OpenClaim := { program := "ytadplndoopkdgaa", sum := "a71ac2ab40d93b75eefef7f016604629107a5fc357717dc02c82c589f9a65f04", func := "loop.example/ringoverlay/laws.FnSafeDrop", spec := "fnSafeDrop", unfollowed := true, recurses := true, apart := false, narrowed := true }
def FnSafeDropUptoSaid : Prop := fnSafeDropUptoRow.holds Try.pinned (OpenSpec.upto fnSafeDropSpec)

/-- 'laws.FnSafeNotify', WHERE WHAT IT READS IS OF BULK AT MOST 1048576: true; the input reads as it did. -/
def fnSafeNotifyUptoRow : OpenClaim := { program := "ytadplndoopkdgaa", sum := "a71ac2ab40d93b75eefef7f016604629107a5fc357717dc02c82c589f9a65f04", func := "loop.example/ringoverlay/laws.FnSafeNotify", spec := "fnSafeNotify", unfollowed := true, recurses := true, apart := false, narrowed := true }
def FnSafeNotifyUptoSaid : Prop := fnSafeNotifyUptoRow.holds Try.pinned (OpenSpec.upto fnSafeNotifySpec)

/-- 'laws.FnSafeFail', WHERE WHAT IT READS IS OF BULK AT MOST 1048576: true; the input reads as it did. -/
def fnSafeFailUptoRow : OpenClaim := { program := "ytadplndoopkdgaa", sum := "a71ac2ab40d93b75eefef7f016604629107a5fc357717dc02c82c589f9a65f04", func := "loop.example/ringoverlay/laws.FnSafeFail", spec := "fnSafeFail", unfollowed := true, recurses := true, apart := false, narrowed := true }
def FnSafeFailUptoSaid : Prop := fnSafeFailUptoRow.holds Try.pinned (OpenSpec.upto fnSafeFailSpec)

end Rows
end Go.Proofs.Ytadplndoopkdgaa
