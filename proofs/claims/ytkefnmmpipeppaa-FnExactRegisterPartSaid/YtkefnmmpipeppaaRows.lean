/-
  No cell of these rows narrows 'for every input' (looked for: loops, veiled, ifaces, maps, wideKeys, modest, calm, conditions, laid).
  DERIVED. THE GIVEN ROWS OF THIS SEAT. 7 by the template 'for every input the law returns true; each argument reads behind the call as it read before'; 0 by the template 'total and deterministic' (their statements: YtkefnmmpipeppaaTotals.lean).
  GIVEN WITH THE SEED: the statements are not yours to turn. If you find one false, say at which input.
  Laid BY PROGRAM, IN A SANDBOX (cutbox-rows.mjs): the forced cells as the released guide's own fill.sh prints them over the translation 91aa04bfc032d469… (all of the seat's roots in one cut). By AI agents, Wed Nov 11 2026. No macro, syntax, notation, axiom, sorry.
-/
import Derived.Test.YtkefnmmpipeppaaChecked
import GoSem.Claim
import GoSem.ClaimJoined
import GoSem.ClaimMapViews
import Derived.JoinedTies
import Derived.KernelRfl
namespace Go.Proofs.Ytkefnmmpipeppaa
/- THE CELL 'sum', in the pinned program and in every row, IS THE sha256 OF THE DUMP (.gsa) THAT YtkefnmmpipeppaaProg.lean LOADS. Nothing in Lean hashes anything: it is a label: what it is worth is what the hold of that sum in a sandbox is worth. -/
noncomputable def Try.pinned : Pinned := { name := "ytkefnmmpipeppaa", sum := "91aa04bfc032d4698f1ceec7db68be0feffea3c7c3e1800dda23ee2dc9ff5206", checked := Try.checked }
namespace Rows
def none {H : Type} : Left H := { results := [], args := [] }

/-- 'laws.FnPartTwice': WHATEVER THE INPUT: true; the input reads as it did. -/
def fnPartTwiceSpec : ChangeSpec := { name := "fnPartTwice", fn := fun _ => fun
  | [d] => { results := [.lit (.bool true)], args := [d] }
  | _ => none }
def fnPartTwiceRow : OpenClaim := { program := "ytkefnmmpipeppaa", sum := "91aa04bfc032d4698f1ceec7db68be0feffea3c7c3e1800dda23ee2dc9ff5206", func := "loop.example/ringoverlay/laws.FnPartTwice", spec := "fnPartTwice", inPlace := ["(*sync.WaitGroup).Add", "internal/race.ReleaseMerge", "internal/race.Disable", "internal/race.Enable", "internal/synctest.IsInBubble", "internal/synctest.Associate[sync.WaitGroup]", "sync.fatal", "sync/atomic.OrUint64", "sync/atomic.AddUint64", "internal/race.Read", "sync/atomic.LoadUint64", "sync/atomic.StoreUint64", "internal/synctest.Disassociate[sync.WaitGroup]", "sync.runtime_Semrelease", "(*sync.WaitGroup).Done", "(*sync.WaitGroup).Wait", "internal/race.Acquire", "internal/synctest.IsAssociated[sync.WaitGroup]", "sync/atomic.CompareAndSwapUint64", "internal/race.Write", "sync.runtime_SemacquireWaitGroup"], unfollowed := true, recurses := true, leaving := true, apart := false }
def FnPartTwiceSaid : Prop := fnPartTwiceRow.holds Try.pinned (OpenSpec.ofChange fnPartTwiceSpec)

/-- ITS FALSE NEIGHBOUR: 'it returns false'. Refute it at one input. -/
def fnPartTwiceWrong : ChangeSpec := { name := "fnPartTwice", fn := fun _ => fun
  | [d] => { results := [.lit (.bool false)], args := [d] }
  | _ => none }
def FnPartTwiceWrongFalsely : Prop := fnPartTwiceRow.holds Try.pinned (OpenSpec.ofChange fnPartTwiceWrong)

/-- 'laws.FnPartOlder': WHATEVER THE INPUT: true; the input reads as it did. -/
def fnPartOlderSpec : ChangeSpec := { name := "fnPartOlder", fn := fun _ => fun
  | [d] => { results := [.lit (.bool true)], args := [d] }
  | _ => none }
def fnPartOlderRow : OpenClaim := { program := "ytkefnmmpipeppaa", sum := "91aa04bfc032d4698f1ceec7db68be0feffea3c7c3e1800dda23ee2dc9ff5206", func := "loop.example/ringoverlay/laws.FnPartOlder", spec := "fnPartOlder", inPlace := ["(*sync.WaitGroup).Add", "internal/race.ReleaseMerge", "internal/race.Disable", "internal/race.Enable", "internal/synctest.IsInBubble", "internal/synctest.Associate[sync.WaitGroup]", "sync.fatal", "sync/atomic.OrUint64", "sync/atomic.AddUint64", "internal/race.Read", "sync/atomic.LoadUint64", "sync/atomic.StoreUint64", "internal/synctest.Disassociate[sync.WaitGroup]", "sync.runtime_Semrelease", "(*sync.WaitGroup).Done", "(*sync.WaitGroup).Wait", "internal/race.Acquire", "internal/synctest.IsAssociated[sync.WaitGroup]", "sync/atomic.CompareAndSwapUint64", "internal/race.Write", "sync.runtime_SemacquireWaitGroup"], unfollowed := true, recurses := true, leaving := true, apart := false }
def FnPartOlderSaid : Prop := fnPartOlderRow.holds Try.pinned (OpenSpec.ofChange fnPartOlderSpec)

/-- ITS FALSE NEIGHBOUR: 'it returns false'. Refute it at one input. -/
def fnPartOlderWrong : ChangeSpec := { name := "fnPartOlder", fn := fun _ => fun
  | [d] => { results := [.lit (.bool false)], args := [d] }
  | _ => none }
def FnPartOlderWrongFalsely : Prop := fnPartOlderRow.holds Try.pinned (OpenSpec.ofChange fnPartOlderWrong)

/-- 'laws.FnExactRegisterPart': WHATEVER THE INPUT: true; the input reads as it did. -/
def fnExactRegisterPartSpec : ChangeSpec := { name := "fnExactRegisterPart", fn := fun _ => fun
  | [d1, d2, d3] => { results := [.lit (.bool true)], args := [d1, d2, d3] }
  | _ => none }
def fnExactRegisterPartRow : OpenClaim := { program := "ytkefnmmpipeppaa", sum := "91aa04bfc032d4698f1ceec7db68be0feffea3c7c3e1800dda23ee2dc9ff5206", func := "loop.example/ringoverlay/laws.FnExactRegisterPart", spec := "fnExactRegisterPart", inPlace := ["(*sync.WaitGroup).Add", "internal/race.ReleaseMerge", "internal/race.Disable", "internal/race.Enable", "internal/synctest.IsInBubble", "internal/synctest.Associate[sync.WaitGroup]", "sync.fatal", "sync/atomic.OrUint64", "sync/atomic.AddUint64", "internal/race.Read", "sync/atomic.LoadUint64", "sync/atomic.StoreUint64", "internal/synctest.Disassociate[sync.WaitGroup]", "sync.runtime_Semrelease", "(*sync.WaitGroup).Done", "(*sync.WaitGroup).Wait", "internal/race.Acquire", "internal/synctest.IsAssociated[sync.WaitGroup]", "sync/atomic.CompareAndSwapUint64", "internal/race.Write", "sync.runtime_SemacquireWaitGroup"], unfollowed := true, recurses := true, leaving := true, apart := false }
def FnExactRegisterPartSaid : Prop := fnExactRegisterPartRow.holds Try.pinned (OpenSpec.ofChange fnExactRegisterPartSpec)

/-- ITS FALSE NEIGHBOUR: 'it returns false'. Refute it at one input. -/
def fnExactRegisterPartWrong : ChangeSpec := { name := "fnExactRegisterPart", fn := fun _ => fun
  | [d1, d2, d3] => { results := [.lit (.bool false)], args := [d1, d2, d3] }
  | _ => none }
def FnExactRegisterPartWrongFalsely : Prop := fnExactRegisterPartRow.holds Try.pinned (OpenSpec.ofChange fnExactRegisterPartWrong)

/-- 'laws.FnPartFinished': WHATEVER THE INPUT: true; the input reads as it did. -/
def fnPartFinishedSpec : ChangeSpec := { name := "fnPartFinished", fn := fun _ => fun
  | [d1, d2] => { results := [.lit (.bool true)], args := [d1, d2] }
  | _ => none }
def fnPartFinishedRow : OpenClaim := { program := "ytkefnmmpipeppaa", sum := "91aa04bfc032d4698f1ceec7db68be0feffea3c7c3e1800dda23ee2dc9ff5206", func := "loop.example/ringoverlay/laws.FnPartFinished", spec := "fnPartFinished", inPlace := ["(*sync.WaitGroup).Add", "internal/race.ReleaseMerge", "internal/race.Disable", "internal/race.Enable", "internal/synctest.IsInBubble", "internal/synctest.Associate[sync.WaitGroup]", "sync.fatal", "sync/atomic.OrUint64", "sync/atomic.AddUint64", "internal/race.Read", "sync/atomic.LoadUint64", "sync/atomic.StoreUint64", "internal/synctest.Disassociate[sync.WaitGroup]", "sync.runtime_Semrelease", "(*sync.WaitGroup).Done", "(*sync.WaitGroup).Wait", "internal/race.Acquire", "internal/synctest.IsAssociated[sync.WaitGroup]", "sync/atomic.CompareAndSwapUint64", "internal/race.Write", "sync.runtime_SemacquireWaitGroup"], unfollowed := true, recurses := true, leaving := true, apart := false }
def FnPartFinishedSaid : Prop := fnPartFinishedRow.holds Try.pinned (OpenSpec.ofChange fnPartFinishedSpec)

/-- ITS FALSE NEIGHBOUR: 'it returns false'. Refute it at one input. -/
def fnPartFinishedWrong : ChangeSpec := { name := "fnPartFinished", fn := fun _ => fun
  | [d1, d2] => { results := [.lit (.bool false)], args := [d1, d2] }
  | _ => none }
def FnPartFinishedWrongFalsely : Prop := fnPartFinishedRow.holds Try.pinned (OpenSpec.ofChange fnPartFinishedWrong)

/-- 'laws.FnExactRegisterWrite': WHATEVER THE INPUT: true; the input reads as it did. -/
def fnExactRegisterWriteSpec : ChangeSpec := { name := "fnExactRegisterWrite", fn := fun _ => fun
  | [d1, d2, d3, d4, d5] => { results := [.lit (.bool true)], args := [d1, d2, d3, d4, d5] }
  | _ => none }
def fnExactRegisterWriteRow : OpenClaim := { program := "ytkefnmmpipeppaa", sum := "91aa04bfc032d4698f1ceec7db68be0feffea3c7c3e1800dda23ee2dc9ff5206", func := "loop.example/ringoverlay/laws.FnExactRegisterWrite", spec := "fnExactRegisterWrite", inPlace := ["(*sync.WaitGroup).Add", "internal/race.ReleaseMerge", "internal/race.Disable", "internal/race.Enable", "internal/synctest.IsInBubble", "internal/synctest.Associate[sync.WaitGroup]", "sync.fatal", "sync/atomic.OrUint64", "sync/atomic.AddUint64", "internal/race.Read", "sync/atomic.LoadUint64", "sync/atomic.StoreUint64", "internal/synctest.Disassociate[sync.WaitGroup]", "sync.runtime_Semrelease", "(*sync.WaitGroup).Done", "(*sync.WaitGroup).Wait", "internal/race.Acquire", "internal/synctest.IsAssociated[sync.WaitGroup]", "sync/atomic.CompareAndSwapUint64", "internal/race.Write", "sync.runtime_SemacquireWaitGroup"], unfollowed := true, recurses := true, leaving := true, apart := false }
def FnExactRegisterWriteSaid : Prop := fnExactRegisterWriteRow.holds Try.pinned (OpenSpec.ofChange fnExactRegisterWriteSpec)

/-- ITS FALSE NEIGHBOUR: 'it returns false'. Refute it at one input. -/
def fnExactRegisterWriteWrong : ChangeSpec := { name := "fnExactRegisterWrite", fn := fun _ => fun
  | [d1, d2, d3, d4, d5] => { results := [.lit (.bool false)], args := [d1, d2, d3, d4, d5] }
  | _ => none }
def FnExactRegisterWriteWrongFalsely : Prop := fnExactRegisterWriteRow.holds Try.pinned (OpenSpec.ofChange fnExactRegisterWriteWrong)

/-- 'laws.FnWriteRead': WHATEVER THE INPUT: true; the input reads as it did. -/
def fnWriteReadSpec : ChangeSpec := { name := "fnWriteRead", fn := fun _ => fun
  | [d1, d2] => { results := [.lit (.bool true)], args := [d1, d2] }
  | _ => none }
def fnWriteReadRow : OpenClaim := { program := "ytkefnmmpipeppaa", sum := "91aa04bfc032d4698f1ceec7db68be0feffea3c7c3e1800dda23ee2dc9ff5206", func := "loop.example/ringoverlay/laws.FnWriteRead", spec := "fnWriteRead", inPlace := ["(*sync.WaitGroup).Add", "internal/race.ReleaseMerge", "internal/race.Disable", "internal/race.Enable", "internal/synctest.IsInBubble", "internal/synctest.Associate[sync.WaitGroup]", "sync.fatal", "sync/atomic.OrUint64", "sync/atomic.AddUint64", "internal/race.Read", "sync/atomic.LoadUint64", "sync/atomic.StoreUint64", "internal/synctest.Disassociate[sync.WaitGroup]", "sync.runtime_Semrelease", "(*sync.WaitGroup).Done", "(*sync.WaitGroup).Wait", "internal/race.Acquire", "internal/synctest.IsAssociated[sync.WaitGroup]", "sync/atomic.CompareAndSwapUint64", "internal/race.Write", "sync.runtime_SemacquireWaitGroup"], unfollowed := true, recurses := true, leaving := true, apart := false }
def FnWriteReadSaid : Prop := fnWriteReadRow.holds Try.pinned (OpenSpec.ofChange fnWriteReadSpec)

/-- ITS FALSE NEIGHBOUR: 'it returns false'. Refute it at one input. -/
def fnWriteReadWrong : ChangeSpec := { name := "fnWriteRead", fn := fun _ => fun
  | [d1, d2] => { results := [.lit (.bool false)], args := [d1, d2] }
  | _ => none }
def FnWriteReadWrongFalsely : Prop := fnWriteReadRow.holds Try.pinned (OpenSpec.ofChange fnWriteReadWrong)

/-- 'laws.FnWriteVersion': WHATEVER THE INPUT: true; the input reads as it did. -/
def fnWriteVersionSpec : ChangeSpec := { name := "fnWriteVersion", fn := fun _ => fun
  | [d] => { results := [.lit (.bool true)], args := [d] }
  | _ => none }
def fnWriteVersionRow : OpenClaim := { program := "ytkefnmmpipeppaa", sum := "91aa04bfc032d4698f1ceec7db68be0feffea3c7c3e1800dda23ee2dc9ff5206", func := "loop.example/ringoverlay/laws.FnWriteVersion", spec := "fnWriteVersion", inPlace := ["(*sync.WaitGroup).Add", "internal/race.ReleaseMerge", "internal/race.Disable", "internal/race.Enable", "internal/synctest.IsInBubble", "internal/synctest.Associate[sync.WaitGroup]", "sync.fatal", "sync/atomic.OrUint64", "sync/atomic.AddUint64", "internal/race.Read", "sync/atomic.LoadUint64", "sync/atomic.StoreUint64", "internal/synctest.Disassociate[sync.WaitGroup]", "sync.runtime_Semrelease", "(*sync.WaitGroup).Done", "(*sync.WaitGroup).Wait", "internal/race.Acquire", "internal/synctest.IsAssociated[sync.WaitGroup]", "sync/atomic.CompareAndSwapUint64", "internal/race.Write", "sync.runtime_SemacquireWaitGroup"], unfollowed := true, recurses := true, leaving := true, apart := false }
def FnWriteVersionSaid : Prop := fnWriteVersionRow.holds Try.pinned (OpenSpec.ofChange fnWriteVersionSpec)

/-- ITS FALSE NEIGHBOUR: 'it returns false'. Refute it at one input. -/
def fnWriteVersionWrong : ChangeSpec := { name := "fnWriteVersion", fn := fun _ => fun
  | [d] => { results := [.lit (.bool false)], args := [d] }
  | _ => none }
def FnWriteVersionWrongFalsely : Prop := fnWriteVersionRow.holds Try.pinned (OpenSpec.ofChange fnWriteVersionWrong)

/- THE SECOND FORM. 'bulk': how many values and letters a reading holds, each counted each time it is reached (what is shared counts as often as it is met; a slice's spare places count too). A statement '..UptoSaid' is the law's where the arguments, and the package variables that the reading takes, are together of bulk at most 1048576: NARROWER than '..Said'. Prove '..Said' where nothing that the law and all that it calls make is longer than what came in: it says more and counts as full. Else prove '..UptoSaid'. A law counts once. -/
mutual
def uptoBulk {H : Type} : DataW H → Nat
  | .lit (.string bytes) => bytes.length + 1
  | .lit _ => 1
  | .nil => 1
  | .ptr d => uptoBulk d + 1
  | .slice elems spare => uptoBulkAll elems + uptoBulkAll spare + 1
  | .agg parts => uptoBulkAll parts + 1
  | .iface _ d => uptoBulk d + 1
  | .map entries => uptoBulkEntries entries + 1
  | .held _ => 1
def uptoBulkAll {H : Type} : List (DataW H) → Nat
  | [] => 0
  | d :: r => uptoBulk d + uptoBulkAll r
def uptoBulkEntries {H : Type} : List (Lit × DataW H) → Nat
  | [] => 0
  | x :: r => uptoBulkEntry x + uptoBulkEntries r
def uptoBulkEntry {H : Type} : Lit × DataW H → Nat
  | (.string bytes, d) => bytes.length + uptoBulk d + 1
  | (_, d) => uptoBulk d + 1
 end
def uptoSmall : (H : Type) → List (DataW H) → Bool := fun _ ds => decide (uptoBulkAll ds ≤ 1048576)
def OpenSpec.upto (s : _root_.Go.ChangeSpec) : _root_.Go.OpenSpec := { _root_.Go.OpenSpec.ofChange s with cond := some uptoSmall }

/-- 'laws.FnPartTwice', WHERE WHAT IT READS IS OF BULK AT MOST 1048576: true; the input reads as it did. -/
def fnPartTwiceUptoRow : OpenClaim := { program := "ytkefnmmpipeppaa", sum := "91aa04bfc032d4698f1ceec7db68be0feffea3c7c3e1800dda23ee2dc9ff5206", func := "loop.example/ringoverlay/laws.FnPartTwice", spec := "fnPartTwice", inPlace := ["(*sync.WaitGroup).Add", "internal/race.ReleaseMerge", "internal/race.Disable", "internal/race.Enable", "internal/synctest.IsInBubble", "internal/synctest.Associate[sync.WaitGroup]", "sync.fatal", "sync/atomic.OrUint64", "sync/atomic.AddUint64", "internal/race.Read", "sync/atomic.LoadUint64", "sync/atomic.StoreUint64", "internal/synctest.Disassociate[sync.WaitGroup]", "sync.runtime_Semrelease", "(*sync.WaitGroup).Done", "(*sync.WaitGroup).Wait", "internal/race.Acquire", "internal/synctest.IsAssociated[sync.WaitGroup]", "sync/atomic.CompareAndSwapUint64", "internal/race.Write", "sync.runtime_SemacquireWaitGroup"], unfollowed := true, recurses := true, leaving := true, apart := false, narrowed := true }
def FnPartTwiceUptoSaid : Prop := fnPartTwiceUptoRow.holds Try.pinned (OpenSpec.upto fnPartTwiceSpec)

/-- 'laws.FnPartOlder', WHERE WHAT IT READS IS OF BULK AT MOST 1048576: true; the input reads as it did. -/
def fnPartOlderUptoRow : OpenClaim := { program := "ytkefnmmpipeppaa", sum := "91aa04bfc032d4698f1ceec7db68be0feffea3c7c3e1800dda23ee2dc9ff5206", func := "loop.example/ringoverlay/laws.FnPartOlder", spec := "fnPartOlder", inPlace := ["(*sync.WaitGroup).Add", "internal/race.ReleaseMerge", "internal/race.Disable", "internal/race.Enable", "internal/synctest.IsInBubble", "internal/synctest.Associate[sync.WaitGroup]", "sync.fatal", "sync/atomic.OrUint64", "sync/atomic.AddUint64", "internal/race.Read", "sync/atomic.LoadUint64", "sync/atomic.StoreUint64", "internal/synctest.Disassociate[sync.WaitGroup]", "sync.runtime_Semrelease", "(*sync.WaitGroup).Done", "(*sync.WaitGroup).Wait", "internal/race.Acquire", "internal/synctest.IsAssociated[sync.WaitGroup]", "sync/atomic.CompareAndSwapUint64", "internal/race.Write", "sync.runtime_SemacquireWaitGroup"], unfollowed := true, recurses := true, leaving := true, apart := false, narrowed := true }
def FnPartOlderUptoSaid : Prop := fnPartOlderUptoRow.holds Try.pinned (OpenSpec.upto fnPartOlderSpec)

/-- 'laws.FnExactRegisterPart', WHERE WHAT IT READS IS OF BULK AT MOST 1048576: true; the input reads as it did. -/
def fnExactRegisterPartUptoRow : OpenClaim := { program := "ytkefnmmpipeppaa", sum := "91aa04bfc032d4698f1ceec7db68be0feffea3c7c3e1800dda23ee2dc9ff5206", func := "loop.example/ringoverlay/laws.FnExactRegisterPart", spec := "fnExactRegisterPart", inPlace := ["(*sync.WaitGroup).Add", "internal/race.ReleaseMerge", "internal/race.Disable", "internal/race.Enable", "internal/synctest.IsInBubble", "internal/synctest.Associate[sync.WaitGroup]", "sync.fatal", "sync/atomic.OrUint64", "sync/atomic.AddUint64", "internal/race.Read", "sync/atomic.LoadUint64", "sync/atomic.StoreUint64", "internal/synctest.Disassociate[sync.WaitGroup]", "sync.runtime_Semrelease", "(*sync.WaitGroup).Done", "(*sync.WaitGroup).Wait", "internal/race.Acquire", "internal/synctest.IsAssociated[sync.WaitGroup]", "sync/atomic.CompareAndSwapUint64", "internal/race.Write", "sync.runtime_SemacquireWaitGroup"], unfollowed := true, recurses := true, leaving := true, apart := false, narrowed := true }
def FnExactRegisterPartUptoSaid : Prop := fnExactRegisterPartUptoRow.holds Try.pinned (OpenSpec.upto fnExactRegisterPartSpec)

/-- 'laws.FnPartFinished', WHERE WHAT IT READS IS OF BULK AT MOST 1048576: true; the input reads as it did. -/
def fnPartFinishedUptoRow : OpenClaim := { program := "ytkefnmmpipeppaa", sum := "91aa04bfc032d4698f1ceec7db68be0feffea3c7c3e1800dda23ee2dc9ff5206", func := "loop.example/ringoverlay/laws.FnPartFinished", spec := "fnPartFinished", inPlace := ["(*sync.WaitGroup).Add", "internal/race.ReleaseMerge", "internal/race.Disable", "internal/race.Enable", "internal/synctest.IsInBubble", "internal/synctest.Associate[sync.WaitGroup]", "sync.fatal", "sync/atomic.OrUint64", "sync/atomic.AddUint64", "internal/race.Read", "sync/atomic.LoadUint64", "sync/atomic.StoreUint64", "internal/synctest.Disassociate[sync.WaitGroup]", "sync.runtime_Semrelease", "(*sync.WaitGroup).Done", "(*sync.WaitGroup).Wait", "internal/race.Acquire", "internal/synctest.IsAssociated[sync.WaitGroup]", "sync/atomic.CompareAndSwapUint64", "internal/race.Write", "sync.runtime_SemacquireWaitGroup"], unfollowed := true, recurses := true, leaving := true, apart := false, narrowed := true }
def FnPartFinishedUptoSaid : Prop := fnPartFinishedUptoRow.holds Try.pinned (OpenSpec.upto fnPartFinishedSpec)

/-- 'laws.FnExactRegisterWrite', WHERE WHAT IT READS IS OF BULK AT MOST 1048576: true; the input reads as it did. -/
def fnExactRegisterWriteUptoRow : OpenClaim := { program := "ytkefnmmpipeppaa", sum := "91aa04bfc032d4698f1ceec7db68be0feffea3c7c3e1800dda23ee2dc9ff5206", func := "loop.example/ringoverlay/laws.FnExactRegisterWrite", spec := "fnExactRegisterWrite", inPlace := ["(*sync.WaitGroup).Add", "internal/race.ReleaseMerge", "internal/race.Disable", "internal/race.Enable", "internal/synctest.IsInBubble", "internal/synctest.Associate[sync.WaitGroup]", "sync.fatal", "sync/atomic.OrUint64", "sync/atomic.AddUint64", "internal/race.Read", "sync/atomic.LoadUint64", "sync/atomic.StoreUint64", "internal/synctest.Disassociate[sync.WaitGroup]", "sync.runtime_Semrelease", "(*sync.WaitGroup).Done", "(*sync.WaitGroup).Wait", "internal/race.Acquire", "internal/synctest.IsAssociated[sync.WaitGroup]", "sync/atomic.CompareAndSwapUint64", "internal/race.Write", "sync.runtime_SemacquireWaitGroup"], unfollowed := true, recurses := true, leaving := true, apart := false, narrowed := true }
def FnExactRegisterWriteUptoSaid : Prop := fnExactRegisterWriteUptoRow.holds Try.pinned (OpenSpec.upto fnExactRegisterWriteSpec)

/-- 'laws.FnWriteRead', WHERE WHAT IT READS IS OF BULK AT MOST 1048576: true; the input reads as it did. -/
def fnWriteReadUptoRow : OpenClaim := { program := "ytkefnmmpipeppaa", sum := "91aa04bfc032d4698f1ceec7db68be0feffea3c7c3e1800dda23ee2dc9ff5206", func := "loop.example/ringoverlay/laws.FnWriteRead", spec := "fnWriteRead", inPlace := ["(*sync.WaitGroup).Add", "internal/race.ReleaseMerge", "internal/race.Disable", "internal/race.Enable", "internal/synctest.IsInBubble", "internal/synctest.Associate[sync.WaitGroup]", "sync.fatal", "sync/atomic.OrUint64", "sync/atomic.AddUint64", "internal/race.Read", "sync/atomic.LoadUint64", "sync/atomic.StoreUint64", "internal/synctest.Disassociate[sync.WaitGroup]", "sync.runtime_Semrelease", "(*sync.WaitGroup).Done", "(*sync.WaitGroup).Wait", "internal/race.Acquire", "internal/synctest.IsAssociated[sync.WaitGroup]", "sync/atomic.CompareAndSwapUint64", "internal/race.Write", "sync.runtime_SemacquireWaitGroup"], unfollowed := true, recurses := true, leaving := true, apart := false, narrowed := true }
def FnWriteReadUptoSaid : Prop := fnWriteReadUptoRow.holds Try.pinned (OpenSpec.upto fnWriteReadSpec)

/-- 'laws.FnWriteVersion', WHERE WHAT IT READS IS OF BULK AT MOST 1048576: true; the input reads as it did. -/
def fnWriteVersionUptoRow : OpenClaim := { program := "ytkefnmmpipeppaa", sum := "91aa04bfc032d4698f1ceec7db68be0feffea3c7c3e1800dda23ee2dc9ff5206", func := "loop.example/ringoverlay/laws.FnWriteVersion", spec := "fnWriteVersion", inPlace := ["(*sync.WaitGroup).Add", "internal/race.ReleaseMerge", "internal/race.Disable", "internal/race.Enable", "internal/synctest.IsInBubble", "internal/synctest.Associate[sync.WaitGroup]", "sync.fatal", "sync/atomic.OrUint64", "sync/atomic.AddUint64", "internal/race.Read", "sync/atomic.LoadUint64", "sync/atomic.StoreUint64", "internal/synctest.Disassociate[sync.WaitGroup]", "sync.runtime_Semrelease", "(*sync.WaitGroup).Done", "(*sync.WaitGroup).Wait", "internal/race.Acquire", "internal/synctest.IsAssociated[sync.WaitGroup]", "sync/atomic.CompareAndSwapUint64", "internal/race.Write", "sync.runtime_SemacquireWaitGroup"], unfollowed := true, recurses := true, leaving := true, apart := false, narrowed := true }
def FnWriteVersionUptoSaid : Prop := fnWriteVersionUptoRow.holds Try.pinned (OpenSpec.upto fnWriteVersionSpec)

end Rows
end Go.Proofs.Ytkefnmmpipeppaa
