/-
  NARROWER THAN 'FOR EVERY INPUT', by the rows' own cells (each row's printed sentence says how): FnExactLeaseHand: ifaces, laid · FnHandCount: ifaces, laid · FnHandRefused: ifaces, laid · FnHandKeys: ifaces, laid · FnHandOwner: ifaces, laid · FnHandBack: ifaces, laid · FnHandSelf: ifaces, laid.
  DERIVED. THE GIVEN ROWS OF THIS SEAT. 7 by the template 'for every input the law returns true; each argument reads behind the call as it read before'; 0 by the template 'total and deterministic' (their statements: YtdcjacgaakpejaaDoorTotals.lean).
  GIVEN WITH THE SEED: the statements are not yours to turn. If you find one false, say at which input.
  Laid BY PROGRAM, IN A SANDBOX (cutbox-rows.mjs): the forced cells as the released guide's own fill.sh prints them over the translation e88d8cd5d9006fa3… (all of the seat's roots in one cut). By AI agents, Wed Nov 11 2026. No macro, syntax, notation, axiom, sorry.
-/
import Derived.Test.YtdcjacgaakpejaaDoorChecked
import GoSem.Claim
import GoSem.ClaimJoined
import GoSem.ClaimMapViews
import Derived.JoinedTies
import Derived.KernelRfl
namespace Go.Proofs.YtdcjacgaakpejaaDoor
/- THE CELL 'sum', in the pinned program and in every row, IS THE sha256 OF THE DUMP (.gsa) THAT YtdcjacgaakpejaaDoorProg.lean LOADS. Nothing in Lean hashes anything: it is a label: what it is worth is what the hold of that sum in a sandbox is worth. -/
noncomputable def Tryd.pinned : Pinned := { name := "ytdcjacgaakpejaadoor", sum := "e88d8cd5d9006fa3a04bdb59f602db2b96e1c7a6e465308b97317ed3d1059d6e", checked := Tryd.checked }
namespace Rows
def none {H : Type} : Left H := { results := [], args := [] }

/- WHAT THE LISTED PACKAGE-LEVEL VARIABLES READ AS WHEN THE CALL BEGINS. Each datum BY PROGRAM (the guide's laid-datum.mjs) off the statement by which the dump's own 'gosem.cut.vars' lays the variable. In a bare row this is a premise. The card (YtdcjacgaakpejaaDoorCards.lean) ties it to the program's text. -/
def laid_loop_example_ringoverlay_impl_errArgs {H : Type} : DataW H := .iface "*errors.errorString" (.ptr (.agg [.lit (.string [97, 114, 103, 117, 109, 101, 110, 116, 115])]))
def laid_loop_example_ringoverlay_impl_errRefused {H : Type} : DataW H := .iface "*errors.errorString" (.ptr (.agg [.lit (.string [114, 101, 102, 117, 115, 101, 100])]))

/-- 'laws.FnExactLeaseHand': WHATEVER THE INPUT: true; the input reads as it did. -/
def fnExactLeaseHandSpec : ChangeSpec := { name := "fnExactLeaseHand", vars := ["loop.example/ringoverlay/impl.errArgs", "loop.example/ringoverlay/impl.errRefused"], fn := fun _ => fun
  | [d1, d2, d3, d4, d5, g1, g2] => { results := [.lit (.bool true)], args := [d1, d2, d3, d4, d5], vars := [g1, g2] }
  | _ => none }
def fnExactLeaseHandRow : OpenClaim := { program := "ytdcjacgaakpejaadoor", sum := "e88d8cd5d9006fa3a04bdb59f602db2b96e1c7a6e465308b97317ed3d1059d6e", func := "loop.example/ringoverlay/laws.FnExactLeaseHand", spec := "fnExactLeaseHand", inPlace := ["slices.overlaps[loop.example/ringoverlay/impl.Lease]", "internal/reflectlite.TypeOf"], unfollowed := true, recurses := true, named := ["loop.example/ringoverlay/impl.errArgs", "loop.example/ringoverlay/impl.errRefused"], ifaces := true, apart := false, laid := [("loop.example/ringoverlay/impl.errArgs", laid_loop_example_ringoverlay_impl_errArgs), ("loop.example/ringoverlay/impl.errRefused", laid_loop_example_ringoverlay_impl_errRefused)] }
def FnExactLeaseHandSaid : Prop := fnExactLeaseHandRow.holds Tryd.pinned (OpenSpec.ofChange fnExactLeaseHandSpec)

/-- ITS FALSE NEIGHBOUR: 'it returns false'. Refute it at one input. -/
def fnExactLeaseHandWrong : ChangeSpec := { name := "fnExactLeaseHand", vars := ["loop.example/ringoverlay/impl.errArgs", "loop.example/ringoverlay/impl.errRefused"], fn := fun _ => fun
  | [d1, d2, d3, d4, d5, g1, g2] => { results := [.lit (.bool false)], args := [d1, d2, d3, d4, d5], vars := [g1, g2] }
  | _ => none }
def FnExactLeaseHandWrongFalsely : Prop := fnExactLeaseHandRow.holds Tryd.pinned (OpenSpec.ofChange fnExactLeaseHandWrong)

/-- 'laws.FnHandCount': WHATEVER THE INPUT: true; the input reads as it did. -/
def fnHandCountSpec : ChangeSpec := { name := "fnHandCount", vars := ["loop.example/ringoverlay/impl.errArgs", "loop.example/ringoverlay/impl.errRefused"], fn := fun _ => fun
  | [d, g1, g2] => { results := [.lit (.bool true)], args := [d], vars := [g1, g2] }
  | _ => none }
def fnHandCountRow : OpenClaim := { program := "ytdcjacgaakpejaadoor", sum := "e88d8cd5d9006fa3a04bdb59f602db2b96e1c7a6e465308b97317ed3d1059d6e", func := "loop.example/ringoverlay/laws.FnHandCount", spec := "fnHandCount", inPlace := ["slices.overlaps[loop.example/ringoverlay/impl.Lease]", "internal/reflectlite.TypeOf"], unfollowed := true, recurses := true, named := ["loop.example/ringoverlay/impl.errArgs", "loop.example/ringoverlay/impl.errRefused"], ifaces := true, apart := false, laid := [("loop.example/ringoverlay/impl.errArgs", laid_loop_example_ringoverlay_impl_errArgs), ("loop.example/ringoverlay/impl.errRefused", laid_loop_example_ringoverlay_impl_errRefused)] }
def FnHandCountSaid : Prop := fnHandCountRow.holds Tryd.pinned (OpenSpec.ofChange fnHandCountSpec)

/-- ITS FALSE NEIGHBOUR: 'it returns false'. Refute it at one input. -/
def fnHandCountWrong : ChangeSpec := { name := "fnHandCount", vars := ["loop.example/ringoverlay/impl.errArgs", "loop.example/ringoverlay/impl.errRefused"], fn := fun _ => fun
  | [d, g1, g2] => { results := [.lit (.bool false)], args := [d], vars := [g1, g2] }
  | _ => none }
def FnHandCountWrongFalsely : Prop := fnHandCountRow.holds Tryd.pinned (OpenSpec.ofChange fnHandCountWrong)

/-- 'laws.FnHandRefused': WHATEVER THE INPUT: true; the input reads as it did. -/
def fnHandRefusedSpec : ChangeSpec := { name := "fnHandRefused", vars := ["loop.example/ringoverlay/impl.errArgs", "loop.example/ringoverlay/impl.errRefused"], fn := fun _ => fun
  | [d, g1, g2] => { results := [.lit (.bool true)], args := [d], vars := [g1, g2] }
  | _ => none }
def fnHandRefusedRow : OpenClaim := { program := "ytdcjacgaakpejaadoor", sum := "e88d8cd5d9006fa3a04bdb59f602db2b96e1c7a6e465308b97317ed3d1059d6e", func := "loop.example/ringoverlay/laws.FnHandRefused", spec := "fnHandRefused", inPlace := ["slices.overlaps[loop.example/ringoverlay/impl.Lease]", "internal/reflectlite.TypeOf"], unfollowed := true, recurses := true, named := ["loop.example/ringoverlay/impl.errArgs", "loop.example/ringoverlay/impl.errRefused"], ifaces := true, apart := false, laid := [("loop.example/ringoverlay/impl.errArgs", laid_loop_example_ringoverlay_impl_errArgs), ("loop.example/ringoverlay/impl.errRefused", laid_loop_example_ringoverlay_impl_errRefused)] }
def FnHandRefusedSaid : Prop := fnHandRefusedRow.holds Tryd.pinned (OpenSpec.ofChange fnHandRefusedSpec)

/-- ITS FALSE NEIGHBOUR: 'it returns false'. Refute it at one input. -/
def fnHandRefusedWrong : ChangeSpec := { name := "fnHandRefused", vars := ["loop.example/ringoverlay/impl.errArgs", "loop.example/ringoverlay/impl.errRefused"], fn := fun _ => fun
  | [d, g1, g2] => { results := [.lit (.bool false)], args := [d], vars := [g1, g2] }
  | _ => none }
def FnHandRefusedWrongFalsely : Prop := fnHandRefusedRow.holds Tryd.pinned (OpenSpec.ofChange fnHandRefusedWrong)

/-- 'laws.FnHandKeys': WHATEVER THE INPUT: true; the input reads as it did. -/
def fnHandKeysSpec : ChangeSpec := { name := "fnHandKeys", vars := ["loop.example/ringoverlay/impl.errArgs", "loop.example/ringoverlay/impl.errRefused"], fn := fun _ => fun
  | [d, g1, g2] => { results := [.lit (.bool true)], args := [d], vars := [g1, g2] }
  | _ => none }
def fnHandKeysRow : OpenClaim := { program := "ytdcjacgaakpejaadoor", sum := "e88d8cd5d9006fa3a04bdb59f602db2b96e1c7a6e465308b97317ed3d1059d6e", func := "loop.example/ringoverlay/laws.FnHandKeys", spec := "fnHandKeys", inPlace := ["slices.overlaps[loop.example/ringoverlay/impl.Lease]", "internal/reflectlite.TypeOf"], unfollowed := true, recurses := true, named := ["loop.example/ringoverlay/impl.errArgs", "loop.example/ringoverlay/impl.errRefused"], ifaces := true, apart := false, laid := [("loop.example/ringoverlay/impl.errArgs", laid_loop_example_ringoverlay_impl_errArgs), ("loop.example/ringoverlay/impl.errRefused", laid_loop_example_ringoverlay_impl_errRefused)] }
def FnHandKeysSaid : Prop := fnHandKeysRow.holds Tryd.pinned (OpenSpec.ofChange fnHandKeysSpec)

/-- ITS FALSE NEIGHBOUR: 'it returns false'. Refute it at one input. -/
def fnHandKeysWrong : ChangeSpec := { name := "fnHandKeys", vars := ["loop.example/ringoverlay/impl.errArgs", "loop.example/ringoverlay/impl.errRefused"], fn := fun _ => fun
  | [d, g1, g2] => { results := [.lit (.bool false)], args := [d], vars := [g1, g2] }
  | _ => none }
def FnHandKeysWrongFalsely : Prop := fnHandKeysRow.holds Tryd.pinned (OpenSpec.ofChange fnHandKeysWrong)

/-- 'laws.FnHandOwner': WHATEVER THE INPUT: true; the input reads as it did. -/
def fnHandOwnerSpec : ChangeSpec := { name := "fnHandOwner", vars := ["loop.example/ringoverlay/impl.errArgs", "loop.example/ringoverlay/impl.errRefused"], fn := fun _ => fun
  | [d, g1, g2] => { results := [.lit (.bool true)], args := [d], vars := [g1, g2] }
  | _ => none }
def fnHandOwnerRow : OpenClaim := { program := "ytdcjacgaakpejaadoor", sum := "e88d8cd5d9006fa3a04bdb59f602db2b96e1c7a6e465308b97317ed3d1059d6e", func := "loop.example/ringoverlay/laws.FnHandOwner", spec := "fnHandOwner", inPlace := ["slices.overlaps[loop.example/ringoverlay/impl.Lease]", "internal/reflectlite.TypeOf"], unfollowed := true, recurses := true, named := ["loop.example/ringoverlay/impl.errArgs", "loop.example/ringoverlay/impl.errRefused"], ifaces := true, apart := false, laid := [("loop.example/ringoverlay/impl.errArgs", laid_loop_example_ringoverlay_impl_errArgs), ("loop.example/ringoverlay/impl.errRefused", laid_loop_example_ringoverlay_impl_errRefused)] }
def FnHandOwnerSaid : Prop := fnHandOwnerRow.holds Tryd.pinned (OpenSpec.ofChange fnHandOwnerSpec)

/-- ITS FALSE NEIGHBOUR: 'it returns false'. Refute it at one input. -/
def fnHandOwnerWrong : ChangeSpec := { name := "fnHandOwner", vars := ["loop.example/ringoverlay/impl.errArgs", "loop.example/ringoverlay/impl.errRefused"], fn := fun _ => fun
  | [d, g1, g2] => { results := [.lit (.bool false)], args := [d], vars := [g1, g2] }
  | _ => none }
def FnHandOwnerWrongFalsely : Prop := fnHandOwnerRow.holds Tryd.pinned (OpenSpec.ofChange fnHandOwnerWrong)

/-- 'laws.FnHandBack': WHATEVER THE INPUT: true; the input reads as it did. -/
def fnHandBackSpec : ChangeSpec := { name := "fnHandBack", vars := ["loop.example/ringoverlay/impl.errArgs", "loop.example/ringoverlay/impl.errRefused"], fn := fun _ => fun
  | [d, g1, g2] => { results := [.lit (.bool true)], args := [d], vars := [g1, g2] }
  | _ => none }
def fnHandBackRow : OpenClaim := { program := "ytdcjacgaakpejaadoor", sum := "e88d8cd5d9006fa3a04bdb59f602db2b96e1c7a6e465308b97317ed3d1059d6e", func := "loop.example/ringoverlay/laws.FnHandBack", spec := "fnHandBack", inPlace := ["slices.overlaps[loop.example/ringoverlay/impl.Lease]", "internal/reflectlite.TypeOf"], unfollowed := true, recurses := true, named := ["loop.example/ringoverlay/impl.errArgs", "loop.example/ringoverlay/impl.errRefused"], ifaces := true, apart := false, laid := [("loop.example/ringoverlay/impl.errArgs", laid_loop_example_ringoverlay_impl_errArgs), ("loop.example/ringoverlay/impl.errRefused", laid_loop_example_ringoverlay_impl_errRefused)] }
def FnHandBackSaid : Prop := fnHandBackRow.holds Tryd.pinned (OpenSpec.ofChange fnHandBackSpec)

/-- ITS FALSE NEIGHBOUR: 'it returns false'. Refute it at one input. -/
def fnHandBackWrong : ChangeSpec := { name := "fnHandBack", vars := ["loop.example/ringoverlay/impl.errArgs", "loop.example/ringoverlay/impl.errRefused"], fn := fun _ => fun
  | [d, g1, g2] => { results := [.lit (.bool false)], args := [d], vars := [g1, g2] }
  | _ => none }
def FnHandBackWrongFalsely : Prop := fnHandBackRow.holds Tryd.pinned (OpenSpec.ofChange fnHandBackWrong)

/-- 'laws.FnHandSelf': WHATEVER THE INPUT: true; the input reads as it did. -/
def fnHandSelfSpec : ChangeSpec := { name := "fnHandSelf", vars := ["loop.example/ringoverlay/impl.errArgs", "loop.example/ringoverlay/impl.errRefused"], fn := fun _ => fun
  | [d, g1, g2] => { results := [.lit (.bool true)], args := [d], vars := [g1, g2] }
  | _ => none }
def fnHandSelfRow : OpenClaim := { program := "ytdcjacgaakpejaadoor", sum := "e88d8cd5d9006fa3a04bdb59f602db2b96e1c7a6e465308b97317ed3d1059d6e", func := "loop.example/ringoverlay/laws.FnHandSelf", spec := "fnHandSelf", inPlace := ["slices.overlaps[loop.example/ringoverlay/impl.Lease]", "internal/reflectlite.TypeOf"], unfollowed := true, recurses := true, named := ["loop.example/ringoverlay/impl.errArgs", "loop.example/ringoverlay/impl.errRefused"], ifaces := true, apart := false, laid := [("loop.example/ringoverlay/impl.errArgs", laid_loop_example_ringoverlay_impl_errArgs), ("loop.example/ringoverlay/impl.errRefused", laid_loop_example_ringoverlay_impl_errRefused)] }
def FnHandSelfSaid : Prop := fnHandSelfRow.holds Tryd.pinned (OpenSpec.ofChange fnHandSelfSpec)

/-- ITS FALSE NEIGHBOUR: 'it returns false'. Refute it at one input. -/
def fnHandSelfWrong : ChangeSpec := { name := "fnHandSelf", vars := ["loop.example/ringoverlay/impl.errArgs", "loop.example/ringoverlay/impl.errRefused"], fn := fun _ => fun
  | [d, g1, g2] => { results := [.lit (.bool false)], args := [d], vars := [g1, g2] }
  | _ => none }
def FnHandSelfWrongFalsely : Prop := fnHandSelfRow.holds Tryd.pinned (OpenSpec.ofChange fnHandSelfWrong)

/- THE SECOND FORM. 'bulk': how many values and letters a reading holds, each counted each time it is reached (what is shared counts as often as it is met; a slice's spare places count too). A statement '..UptoSaid' is the law's where the arguments, and the package variables that the reading takes, are together of bulk at most 1048576: NARROWER than '..Said'. Prove '..Said' where nothing that the law and all that it calls make is longer than what came in: it says more and counts as full. Else prove '..UptoSaid'. A law counts once. -/
mutual
def uptoBulk {H : Type} : DataW H → Nat
  | .lit (.string bytes) => bytes.length + 1
  | .lit _ => 1
  | .nil => 1
  | .ptr d => uptoBulk d + 1
  | .slice elems spare => uptoBulkAll elems + uptoBulkAll spare + 1
  | .agg parts => uptoBulkAll parts + 1
  | .iface _ d => uptoBulk d + 1
  | .map entries => uptoBulkEntries entries + 1
  | .held _ => 1
def uptoBulkAll {H : Type} : List (DataW H) → Nat
  | [] => 0
  | d :: r => uptoBulk d + uptoBulkAll r
def uptoBulkEntries {H : Type} : List (Lit × DataW H) → Nat
  | [] => 0
  | x :: r => uptoBulkEntry x + uptoBulkEntries r
def uptoBulkEntry {H : Type} : Lit × DataW H → Nat
  | (.string bytes, d) => bytes.length + uptoBulk d + 1
  | (_, d) => uptoBulk d + 1
 end
def uptoSmall : (H : Type) → List (DataW H) → Bool := fun _ ds => decide (uptoBulkAll ds ≤ 1048576)
def OpenSpec.upto (s : _root_.Go.ChangeSpec) : _root_.Go.OpenSpec := { _root_.Go.OpenSpec.ofChange s with cond := some uptoSmall }

/-- 'laws.FnExactLeaseHand', WHERE WHAT IT READS IS OF BULK AT MOST 1048576: true; the input reads as it did. -/
def fnExactLeaseHandUptoRow : OpenClaim := { program := "ytdcjacgaakpejaadoor", sum := "e88d8cd5d9006fa3a04bdb59f602db2b96e1c7a6e465308b97317ed3d1059d6e", func := "loop.example/ringoverlay/laws.FnExactLeaseHand", spec := "fnExactLeaseHand", inPlace := ["slices.overlaps[loop.example/ringoverlay/impl.Lease]", "internal/reflectlite.TypeOf"], unfollowed := true, recurses := true, named := ["loop.example/ringoverlay/impl.errArgs", "loop.example/ringoverlay/impl.errRefused"], ifaces := true, apart := false, laid := [("loop.example/ringoverlay/impl.errArgs", laid_loop_example_ringoverlay_impl_errArgs), ("loop.example/ringoverlay/impl.errRefused", laid_loop_example_ringoverlay_impl_errRefused)], narrowed := true }
def FnExactLeaseHandUptoSaid : Prop := fnExactLeaseHandUptoRow.holds Tryd.pinned (OpenSpec.upto fnExactLeaseHandSpec)

/-- 'laws.FnHandCount', WHERE WHAT IT READS IS OF BULK AT MOST 1048576: true; the input reads as it did. -/
def fnHandCountUptoRow : OpenClaim := { program := "ytdcjacgaakpejaadoor", sum := "e88d8cd5d9006fa3a04bdb59f602db2b96e1c7a6e465308b97317ed3d1059d6e", func := "loop.example/ringoverlay/laws.FnHandCount", spec := "fnHandCount", inPlace := ["slices.overlaps[loop.example/ringoverlay/impl.Lease]", "internal/reflectlite.TypeOf"], unfollowed := true, recurses := true, named := ["loop.example/ringoverlay/impl.errArgs", "loop.example/ringoverlay/impl.errRefused"], ifaces := true, apart := false, laid := [("loop.example/ringoverlay/impl.errArgs", laid_loop_example_ringoverlay_impl_errArgs), ("loop.example/ringoverlay/impl.errRefused", laid_loop_example_ringoverlay_impl_errRefused)], narrowed := true }
def FnHandCountUptoSaid : Prop := fnHandCountUptoRow.holds Tryd.pinned (OpenSpec.upto fnHandCountSpec)

/-- 'laws.FnHandRefused', WHERE WHAT IT READS IS OF BULK AT MOST 1048576: true; the input reads as it did. -/
def fnHandRefusedUptoRow : OpenClaim := { program := "ytdcjacgaakpejaadoor", sum := "e88d8cd5d9006fa3a04bdb59f602db2b96e1c7a6e465308b97317ed3d1059d6e", func := "loop.example/ringoverlay/laws.FnHandRefused", spec := "fnHandRefused", inPlace := ["slices.overlaps[loop.example/ringoverlay/impl.Lease]", "internal/reflectlite.TypeOf"], unfollowed := true, recurses := true, named := ["loop.example/ringoverlay/impl.errArgs", "loop.example/ringoverlay/impl.errRefused"], ifaces := true, apart := false, laid := [("loop.example/ringoverlay/impl.errArgs", laid_loop_example_ringoverlay_impl_errArgs), ("loop.example/ringoverlay/impl.errRefused", laid_loop_example_ringoverlay_impl_errRefused)], narrowed := true }
def FnHandRefusedUptoSaid : Prop := fnHandRefusedUptoRow.holds Tryd.pinned (OpenSpec.upto fnHandRefusedSpec)

/-- 'laws.FnHandKeys', WHERE WHAT IT READS IS OF BULK AT MOST 1048576: true; the input reads as it did. -/
def fnHandKeysUptoRow : OpenClaim := { program := "ytdcjacgaakpejaadoor", sum := "e88d8cd5d9006fa3a04bdb59f602db2b96e1c7a6e465308b97317ed3d1059d6e", func := "loop.example/ringoverlay/laws.FnHandKeys", spec := "fnHandKeys", inPlace := ["slices.overlaps[loop.example/ringoverlay/impl.Lease]", "internal/reflectlite.TypeOf"], unfollowed := true, recurses := true, named := ["loop.example/ringoverlay/impl.errArgs", "loop.example/ringoverlay/impl.errRefused"], ifaces := true, apart := false, laid := [("loop.example/ringoverlay/impl.errArgs", laid_loop_example_ringoverlay_impl_errArgs), ("loop.example/ringoverlay/impl.errRefused", laid_loop_example_ringoverlay_impl_errRefused)], narrowed := true }
def FnHandKeysUptoSaid : Prop := fnHandKeysUptoRow.holds Tryd.pinned (OpenSpec.upto fnHandKeysSpec)

/-- 'laws.FnHandOwner', WHERE WHAT IT READS IS OF BULK AT MOST 1048576: true; the input reads as it did. -/
def fnHandOwnerUptoRow : OpenClaim := { program := "ytdcjacgaakpejaadoor", sum := "e88d8cd5d9006fa3a04bdb59f602db2b96e1c7a6e465308b97317ed3d1059d6e", func := "loop.example/ringoverlay/laws.FnHandOwner", spec := "fnHandOwner", inPlace := ["slices.overlaps[loop.example/ringoverlay/impl.Lease]", "internal/reflectlite.TypeOf"], unfollowed := true, recurses := true, named := ["loop.example/ringoverlay/impl.errArgs", "loop.example/ringoverlay/impl.errRefused"], ifaces := true, apart := false, laid := [("loop.example/ringoverlay/impl.errArgs", laid_loop_example_ringoverlay_impl_errArgs), ("loop.example/ringoverlay/impl.errRefused", laid_loop_example_ringoverlay_impl_errRefused)], narrowed := true }
def FnHandOwnerUptoSaid : Prop := fnHandOwnerUptoRow.holds Tryd.pinned (OpenSpec.upto fnHandOwnerSpec)

/-- 'laws.FnHandBack', WHERE WHAT IT READS IS OF BULK AT MOST 1048576: true; the input reads as it did. -/
def fnHandBackUptoRow : OpenClaim := { program := "ytdcjacgaakpejaadoor", sum := "e88d8cd5d9006fa3a04bdb59f602db2b96e1c7a6e465308b97317ed3d1059d6e", func := "loop.example/ringoverlay/laws.FnHandBack", spec := "fnHandBack", inPlace := ["slices.overlaps[loop.example/ringoverlay/impl.Lease]", "internal/reflectlite.TypeOf"], unfollowed := true, recurses := true, named := ["loop.example/ringoverlay/impl.errArgs", "loop.example/ringoverlay/impl.errRefused"], ifaces := true, apart := false, laid := [("loop.example/ringoverlay/impl.errArgs", laid_loop_example_ringoverlay_impl_errArgs), ("loop.example/ringoverlay/impl.errRefused", laid_loop_example_ringoverlay_impl_errRefused)], narrowed := true }
def FnHandBackUptoSaid : Prop := fnHandBackUptoRow.holds Tryd.pinned (OpenSpec.upto fnHandBackSpec)

/-- 'laws.FnHandSelf', WHERE WHAT IT READS IS OF BULK AT MOST 1048576: true; the input reads as it did. -/
def fnHandSelfUptoRow : OpenClaim := { program := "ytdcjacgaakpejaadoor", sum := "e88d8cd5d9006fa3a04bdb59f602db2b96e1c7a6e465308b97317ed3d1059d6e", func := "loop.example/ringoverlay/laws.FnHandSelf", spec := "fnHandSelf", inPlace := ["slices.overlaps[loop.example/ringoverlay/impl.Lease]", "internal/reflectlite.TypeOf"], unfollowed := true, recurses := true, named := ["loop.example/ringoverlay/impl.errArgs", "loop.example/ringoverlay/impl.errRefused"], ifaces := true, apart := false, laid := [("loop.example/ringoverlay/impl.errArgs", laid_loop_example_ringoverlay_impl_errArgs), ("loop.example/ringoverlay/impl.errRefused", laid_loop_example_ringoverlay_impl_errRefused)], narrowed := true }
def FnHandSelfUptoSaid : Prop := fnHandSelfUptoRow.holds Tryd.pinned (OpenSpec.upto fnHandSelfSpec)

end Rows
end Go.Proofs.YtdcjacgaakpejaaDoor
