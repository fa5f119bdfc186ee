/-
  No cell of these rows narrows 'for every input' (looked for: loops, veiled, ifaces, maps, wideKeys, modest, calm, conditions, laid).
  DERIVED. THE GIVEN ROWS OF THIS SEAT. 12 by the template 'for every input the law returns true; each argument reads behind the call as it read before'; 0 by the template 'total and deterministic' (their statements: YtnoamohpkngbdaaTotals.lean).
  GIVEN WITH THE SEED: the statements are not yours to turn. If you find one false, say at which input.
  Laid BY PROGRAM, IN A SANDBOX (cutbox-rows.mjs): the forced cells as the released guide's own fill.sh prints them over the translation 29298a3c15f63c9e… (all of the seat's roots in one cut). By AI agents, Wed Nov 11 2026. No macro, syntax, notation, axiom, sorry.
-/
import Derived.Test.YtnoamohpkngbdaaChecked
import GoSem.Claim
import GoSem.ClaimJoined
import GoSem.ClaimMapViews
import Derived.JoinedTies
import Derived.KernelRfl
namespace Go.Proofs.Ytnoamohpkngbdaa
/- THE CELL 'sum', in the pinned program and in every row, IS THE sha256 OF THE DUMP (.gsa) THAT YtnoamohpkngbdaaProg.lean LOADS. Nothing in Lean hashes anything: it is a label: what it is worth is what the hold of that sum in a sandbox is worth. -/
noncomputable def Try.pinned : Pinned := { name := "ytnoamohpkngbdaa", sum := "29298a3c15f63c9e8eb4c86e13a8dcf313cf032c89cba944e7d41608d3dd6a70", checked := Try.checked }
namespace Rows
def none {H : Type} : Left H := { results := [], args := [] }

/-- 'laws.FnRingNew': WHATEVER THE INPUT: true; the input reads as it did. -/
def fnRingNewSpec : ChangeSpec := { name := "fnRingNew", fn := fun _ => fun
  | [d] => { results := [.lit (.bool true)], args := [d] }
  | _ => none }
def fnRingNewRow : OpenClaim := { program := "ytnoamohpkngbdaa", sum := "29298a3c15f63c9e8eb4c86e13a8dcf313cf032c89cba944e7d41608d3dd6a70", func := "loop.example/ringoverlay/laws.FnRingNew", spec := "fnRingNew", unfollowed := true, recurses := true, apart := false }
def FnRingNewSaid : Prop := fnRingNewRow.holds Try.pinned (OpenSpec.ofChange fnRingNewSpec)

/-- ITS FALSE NEIGHBOUR: 'it returns false'. Refute it at one input. -/
def fnRingNewWrong : ChangeSpec := { name := "fnRingNew", fn := fun _ => fun
  | [d] => { results := [.lit (.bool false)], args := [d] }
  | _ => none }
def FnRingNewWrongFalsely : Prop := fnRingNewRow.holds Try.pinned (OpenSpec.ofChange fnRingNewWrong)

/-- 'laws.FnRingValid': WHATEVER THE INPUT: true; the input reads as it did. -/
def fnRingValidSpec : ChangeSpec := { name := "fnRingValid", fn := fun _ => fun
  | [d1, d2] => { results := [.lit (.bool true)], args := [d1, d2] }
  | _ => none }
def fnRingValidRow : OpenClaim := { program := "ytnoamohpkngbdaa", sum := "29298a3c15f63c9e8eb4c86e13a8dcf313cf032c89cba944e7d41608d3dd6a70", func := "loop.example/ringoverlay/laws.FnRingValid", spec := "fnRingValid", apart := false }
def FnRingValidSaid : Prop := fnRingValidRow.holds Try.pinned (OpenSpec.ofChange fnRingValidSpec)

/-- ITS FALSE NEIGHBOUR: 'it returns false'. Refute it at one input. -/
def fnRingValidWrong : ChangeSpec := { name := "fnRingValid", fn := fun _ => fun
  | [d1, d2] => { results := [.lit (.bool false)], args := [d1, d2] }
  | _ => none }
def FnRingValidWrongFalsely : Prop := fnRingValidRow.holds Try.pinned (OpenSpec.ofChange fnRingValidWrong)

/-- 'laws.FnRingIds': WHATEVER THE INPUT: true; the input reads as it did. -/
def fnRingIdsSpec : ChangeSpec := { name := "fnRingIds", fn := fun _ => fun
  | [d] => { results := [.lit (.bool true)], args := [d] }
  | _ => none }
def fnRingIdsRow : OpenClaim := { program := "ytnoamohpkngbdaa", sum := "29298a3c15f63c9e8eb4c86e13a8dcf313cf032c89cba944e7d41608d3dd6a70", func := "loop.example/ringoverlay/laws.FnRingIds", spec := "fnRingIds", apart := false }
def FnRingIdsSaid : Prop := fnRingIdsRow.holds Try.pinned (OpenSpec.ofChange fnRingIdsSpec)

/-- ITS FALSE NEIGHBOUR: 'it returns false'. Refute it at one input. -/
def fnRingIdsWrong : ChangeSpec := { name := "fnRingIds", fn := fun _ => fun
  | [d] => { results := [.lit (.bool false)], args := [d] }
  | _ => none }
def FnRingIdsWrongFalsely : Prop := fnRingIdsRow.holds Try.pinned (OpenSpec.ofChange fnRingIdsWrong)

/-- 'laws.FnPrincipals': WHATEVER THE INPUT: true; the input reads as it did. -/
def fnPrincipalsSpec : ChangeSpec := { name := "fnPrincipals", fn := fun _ => fun
  | [d] => { results := [.lit (.bool true)], args := [d] }
  | _ => none }
def fnPrincipalsRow : OpenClaim := { program := "ytnoamohpkngbdaa", sum := "29298a3c15f63c9e8eb4c86e13a8dcf313cf032c89cba944e7d41608d3dd6a70", func := "loop.example/ringoverlay/laws.FnPrincipals", spec := "fnPrincipals", unfollowed := true, recurses := true, apart := false }
def FnPrincipalsSaid : Prop := fnPrincipalsRow.holds Try.pinned (OpenSpec.ofChange fnPrincipalsSpec)

/-- ITS FALSE NEIGHBOUR: 'it returns false'. Refute it at one input. -/
def fnPrincipalsWrong : ChangeSpec := { name := "fnPrincipals", fn := fun _ => fun
  | [d] => { results := [.lit (.bool false)], args := [d] }
  | _ => none }
def FnPrincipalsWrongFalsely : Prop := fnPrincipalsRow.holds Try.pinned (OpenSpec.ofChange fnPrincipalsWrong)

/-- 'laws.FnPrincipalsOrder': WHATEVER THE INPUT: true; the input reads as it did. -/
def fnPrincipalsOrderSpec : ChangeSpec := { name := "fnPrincipalsOrder", fn := fun _ => fun
  | [d] => { results := [.lit (.bool true)], args := [d] }
  | _ => none }
def fnPrincipalsOrderRow : OpenClaim := { program := "ytnoamohpkngbdaa", sum := "29298a3c15f63c9e8eb4c86e13a8dcf313cf032c89cba944e7d41608d3dd6a70", func := "loop.example/ringoverlay/laws.FnPrincipalsOrder", spec := "fnPrincipalsOrder", unfollowed := true, recurses := true, apart := false }
def FnPrincipalsOrderSaid : Prop := fnPrincipalsOrderRow.holds Try.pinned (OpenSpec.ofChange fnPrincipalsOrderSpec)

/-- ITS FALSE NEIGHBOUR: 'it returns false'. Refute it at one input. -/
def fnPrincipalsOrderWrong : ChangeSpec := { name := "fnPrincipalsOrder", fn := fun _ => fun
  | [d] => { results := [.lit (.bool false)], args := [d] }
  | _ => none }
def FnPrincipalsOrderWrongFalsely : Prop := fnPrincipalsOrderRow.holds Try.pinned (OpenSpec.ofChange fnPrincipalsOrderWrong)

/-- 'laws.FnSafe': WHATEVER THE INPUT: true; the input reads as it did. -/
def fnSafeSpec : ChangeSpec := { name := "fnSafe", fn := fun _ => fun
  | [d] => { results := [.lit (.bool true)], args := [d] }
  | _ => none }
def fnSafeRow : OpenClaim := { program := "ytnoamohpkngbdaa", sum := "29298a3c15f63c9e8eb4c86e13a8dcf313cf032c89cba944e7d41608d3dd6a70", func := "loop.example/ringoverlay/laws.FnSafe", spec := "fnSafe", unfollowed := true, recurses := true, apart := false }
def FnSafeSaid : Prop := fnSafeRow.holds Try.pinned (OpenSpec.ofChange fnSafeSpec)

/-- ITS FALSE NEIGHBOUR: 'it returns false'. Refute it at one input. -/
def fnSafeWrong : ChangeSpec := { name := "fnSafe", fn := fun _ => fun
  | [d] => { results := [.lit (.bool false)], args := [d] }
  | _ => none }
def FnSafeWrongFalsely : Prop := fnSafeRow.holds Try.pinned (OpenSpec.ofChange fnSafeWrong)

/-- 'laws.FnSafeSelf': WHATEVER THE INPUT: true; the input reads as it did. -/
def fnSafeSelfSpec : ChangeSpec := { name := "fnSafeSelf", fn := fun _ => fun
  | [d] => { results := [.lit (.bool true)], args := [d] }
  | _ => none }
def fnSafeSelfRow : OpenClaim := { program := "ytnoamohpkngbdaa", sum := "29298a3c15f63c9e8eb4c86e13a8dcf313cf032c89cba944e7d41608d3dd6a70", func := "loop.example/ringoverlay/laws.FnSafeSelf", spec := "fnSafeSelf", unfollowed := true, recurses := true, apart := false }
def FnSafeSelfSaid : Prop := fnSafeSelfRow.holds Try.pinned (OpenSpec.ofChange fnSafeSelfSpec)

/-- ITS FALSE NEIGHBOUR: 'it returns false'. Refute it at one input. -/
def fnSafeSelfWrong : ChangeSpec := { name := "fnSafeSelf", fn := fun _ => fun
  | [d] => { results := [.lit (.bool false)], args := [d] }
  | _ => none }
def FnSafeSelfWrongFalsely : Prop := fnSafeSelfRow.holds Try.pinned (OpenSpec.ofChange fnSafeSelfWrong)

/-- 'laws.FnSafeOrder': WHATEVER THE INPUT: true; the input reads as it did. -/
def fnSafeOrderSpec : ChangeSpec := { name := "fnSafeOrder", fn := fun _ => fun
  | [d] => { results := [.lit (.bool true)], args := [d] }
  | _ => none }
def fnSafeOrderRow : OpenClaim := { program := "ytnoamohpkngbdaa", sum := "29298a3c15f63c9e8eb4c86e13a8dcf313cf032c89cba944e7d41608d3dd6a70", func := "loop.example/ringoverlay/laws.FnSafeOrder", spec := "fnSafeOrder", unfollowed := true, recurses := true, apart := false }
def FnSafeOrderSaid : Prop := fnSafeOrderRow.holds Try.pinned (OpenSpec.ofChange fnSafeOrderSpec)

/-- ITS FALSE NEIGHBOUR: 'it returns false'. Refute it at one input. -/
def fnSafeOrderWrong : ChangeSpec := { name := "fnSafeOrder", fn := fun _ => fun
  | [d] => { results := [.lit (.bool false)], args := [d] }
  | _ => none }
def FnSafeOrderWrongFalsely : Prop := fnSafeOrderRow.holds Try.pinned (OpenSpec.ofChange fnSafeOrderWrong)

/-- 'laws.FnSafeBetween': WHATEVER THE INPUT: true; the input reads as it did. -/
def fnSafeBetweenSpec : ChangeSpec := { name := "fnSafeBetween", fn := fun _ => fun
  | [d] => { results := [.lit (.bool true)], args := [d] }
  | _ => none }
def fnSafeBetweenRow : OpenClaim := { program := "ytnoamohpkngbdaa", sum := "29298a3c15f63c9e8eb4c86e13a8dcf313cf032c89cba944e7d41608d3dd6a70", func := "loop.example/ringoverlay/laws.FnSafeBetween", spec := "fnSafeBetween", unfollowed := true, recurses := true, apart := false }
def FnSafeBetweenSaid : Prop := fnSafeBetweenRow.holds Try.pinned (OpenSpec.ofChange fnSafeBetweenSpec)

/-- ITS FALSE NEIGHBOUR: 'it returns false'. Refute it at one input. -/
def fnSafeBetweenWrong : ChangeSpec := { name := "fnSafeBetween", fn := fun _ => fun
  | [d] => { results := [.lit (.bool false)], args := [d] }
  | _ => none }
def FnSafeBetweenWrongFalsely : Prop := fnSafeBetweenRow.holds Try.pinned (OpenSpec.ofChange fnSafeBetweenWrong)

/-- 'laws.FnIdealSafe': WHATEVER THE INPUT: true; the input reads as it did. -/
def fnIdealSafeSpec : ChangeSpec := { name := "fnIdealSafe", fn := fun _ => fun
  | [d] => { results := [.lit (.bool true)], args := [d] }
  | _ => none }
def fnIdealSafeRow : OpenClaim := { program := "ytnoamohpkngbdaa", sum := "29298a3c15f63c9e8eb4c86e13a8dcf313cf032c89cba944e7d41608d3dd6a70", func := "loop.example/ringoverlay/laws.FnIdealSafe", spec := "fnIdealSafe", unfollowed := true, recurses := true, apart := false }
def FnIdealSafeSaid : Prop := fnIdealSafeRow.holds Try.pinned (OpenSpec.ofChange fnIdealSafeSpec)

/-- ITS FALSE NEIGHBOUR: 'it returns false'. Refute it at one input. -/
def fnIdealSafeWrong : ChangeSpec := { name := "fnIdealSafe", fn := fun _ => fun
  | [d] => { results := [.lit (.bool false)], args := [d] }
  | _ => none }
def FnIdealSafeWrongFalsely : Prop := fnIdealSafeRow.holds Try.pinned (OpenSpec.ofChange fnIdealSafeWrong)

/-- 'laws.FnIdealNeighbours': WHATEVER THE INPUT: true; the input reads as it did. -/
def fnIdealNeighboursSpec : ChangeSpec := { name := "fnIdealNeighbours", fn := fun _ => fun
  | [d] => { results := [.lit (.bool true)], args := [d] }
  | _ => none }
def fnIdealNeighboursRow : OpenClaim := { program := "ytnoamohpkngbdaa", sum := "29298a3c15f63c9e8eb4c86e13a8dcf313cf032c89cba944e7d41608d3dd6a70", func := "loop.example/ringoverlay/laws.FnIdealNeighbours", spec := "fnIdealNeighbours", unfollowed := true, recurses := true, apart := false }
def FnIdealNeighboursSaid : Prop := fnIdealNeighboursRow.holds Try.pinned (OpenSpec.ofChange fnIdealNeighboursSpec)

/-- ITS FALSE NEIGHBOUR: 'it returns false'. Refute it at one input. -/
def fnIdealNeighboursWrong : ChangeSpec := { name := "fnIdealNeighbours", fn := fun _ => fun
  | [d] => { results := [.lit (.bool false)], args := [d] }
  | _ => none }
def FnIdealNeighboursWrongFalsely : Prop := fnIdealNeighboursRow.holds Try.pinned (OpenSpec.ofChange fnIdealNeighboursWrong)

/-- 'laws.FnIdealOne': WHATEVER THE INPUT: true; the input reads as it did. -/
def fnIdealOneSpec : ChangeSpec := { name := "fnIdealOne", fn := fun _ => fun
  | [d] => { results := [.lit (.bool true)], args := [d] }
  | _ => none }
def fnIdealOneRow : OpenClaim := { program := "ytnoamohpkngbdaa", sum := "29298a3c15f63c9e8eb4c86e13a8dcf313cf032c89cba944e7d41608d3dd6a70", func := "loop.example/ringoverlay/laws.FnIdealOne", spec := "fnIdealOne", unfollowed := true, recurses := true, apart := false }
def FnIdealOneSaid : Prop := fnIdealOneRow.holds Try.pinned (OpenSpec.ofChange fnIdealOneSpec)

/-- ITS FALSE NEIGHBOUR: 'it returns false'. Refute it at one input. -/
def fnIdealOneWrong : ChangeSpec := { name := "fnIdealOne", fn := fun _ => fun
  | [d] => { results := [.lit (.bool false)], args := [d] }
  | _ => none }
def FnIdealOneWrongFalsely : Prop := fnIdealOneRow.holds Try.pinned (OpenSpec.ofChange fnIdealOneWrong)

/- THE SECOND FORM. 'bulk': how many values and letters a reading holds, each counted each time it is reached (what is shared counts as often as it is met; a slice's spare places count too). A statement '..UptoSaid' is the law's where the arguments, and the package variables that the reading takes, are together of bulk at most 1048576: NARROWER than '..Said'. Prove '..Said' where nothing that the law and all that it calls make is longer than what came in: it says more and counts as full. Else prove '..UptoSaid'. A law counts once. -/
mutual
def uptoBulk {H : Type} : DataW H → Nat
  | .lit (.string bytes) => bytes.length + 1
  | .lit _ => 1
  | .nil => 1
  | .ptr d => uptoBulk d + 1
  | .slice elems spare => uptoBulkAll elems + uptoBulkAll spare + 1
  | .agg parts => uptoBulkAll parts + 1
  | .iface _ d => uptoBulk d + 1
  | .map entries => uptoBulkEntries entries + 1
  | .held _ => 1
def uptoBulkAll {H : Type} : List (DataW H) → Nat
  | [] => 0
  | d :: r => uptoBulk d + uptoBulkAll r
def uptoBulkEntries {H : Type} : List (Lit × DataW H) → Nat
  | [] => 0
  | x :: r => uptoBulkEntry x + uptoBulkEntries r
def uptoBulkEntry {H : Type} : Lit × DataW H → Nat
  | (.string bytes, d) => bytes.length + uptoBulk d + 1
  | (_, d) => uptoBulk d + 1
 end
def uptoSmall : (H : Type) → List (DataW H) → Bool := fun _ ds => decide (uptoBulkAll ds ≤ 1048576)
def OpenSpec.upto (s : _root_.Go.ChangeSpec) : _root_.Go.OpenSpec := { _root_.Go.OpenSpec.ofChange s with cond := some uptoSmall }

/-- 'laws.FnRingNew', WHERE WHAT IT READS IS OF BULK AT MOST 1048576: true; the input reads as it did. -/
def fnRingNewUptoRow : OpenClaim := { program := "ytnoamohpkngbdaa", sum := "29298a3c15f63c9e8eb4c86e13a8dcf313cf032c89cba944e7d41608d3dd6a70", func := "loop.example/ringoverlay/laws.FnRingNew", spec := "fnRingNew", unfollowed := true, recurses := true, apart := false, narrowed := true }
def FnRingNewUptoSaid : Prop := fnRingNewUptoRow.holds Try.pinned (OpenSpec.upto fnRingNewSpec)

/-- 'laws.FnRingValid', WHERE WHAT IT READS IS OF BULK AT MOST 1048576: true; the input reads as it did. -/
def fnRingValidUptoRow : OpenClaim := { program := "ytnoamohpkngbdaa", sum := "29298a3c15f63c9e8eb4c86e13a8dcf313cf032c89cba944e7d41608d3dd6a70", func := "loop.example/ringoverlay/laws.FnRingValid", spec := "fnRingValid", apart := false, narrowed := true }
def FnRingValidUptoSaid : Prop := fnRingValidUptoRow.holds Try.pinned (OpenSpec.upto fnRingValidSpec)

/-- 'laws.FnRingIds', WHERE WHAT IT READS IS OF BULK AT MOST 1048576: true; the input reads as it did. -/
def fnRingIdsUptoRow : OpenClaim := { program := "ytnoamohpkngbdaa", sum := "29298a3c15f63c9e8eb4c86e13a8dcf313cf032c89cba944e7d41608d3dd6a70", func := "loop.example/ringoverlay/laws.FnRingIds", spec := "fnRingIds", apart := false, narrowed := true }
def FnRingIdsUptoSaid : Prop := fnRingIdsUptoRow.holds Try.pinned (OpenSpec.upto fnRingIdsSpec)

/-- 'laws.FnPrincipals', WHERE WHAT IT READS IS OF BULK AT MOST 1048576: true; the input reads as it did. -/
def fnPrincipalsUptoRow : OpenClaim := { program := "ytnoamohpkngbdaa", sum := "29298a3c15f63c9e8eb4c86e13a8dcf313cf032c89cba944e7d41608d3dd6a70", func := "loop.example/ringoverlay/laws.FnPrincipals", spec := "fnPrincipals", unfollowed := true, recurses := true, apart := false, narrowed := true }
def FnPrincipalsUptoSaid : Prop := fnPrincipalsUptoRow.holds Try.pinned (OpenSpec.upto fnPrincipalsSpec)

/-- 'laws.FnPrincipalsOrder', WHERE WHAT IT READS IS OF BULK AT MOST 1048576: true; the input reads as it did. -/
def fnPrincipalsOrderUptoRow : OpenClaim := { program := "ytnoamohpkngbdaa", sum := "29298a3c15f63c9e8eb4c86e13a8dcf313cf032c89cba944e7d41608d3dd6a70", func := "loop.example/ringoverlay/laws.FnPrincipalsOrder", spec := "fnPrincipalsOrder", unfollowed := true, recurses := true, apart := false, narrowed := true }
def FnPrincipalsOrderUptoSaid : Prop := fnPrincipalsOrderUptoRow.holds Try.pinned (OpenSpec.upto fnPrincipalsOrderSpec)

/-- 'laws.FnSafe', WHERE WHAT IT READS IS OF BULK AT MOST 1048576: true; the input reads as it did. -/
def fnSafeUptoRow : OpenClaim := { program := "ytnoamohpkngbdaa", sum := "29298a3c15f63c9e8eb4c86e13a8dcf313cf032c89cba944e7d41608d3dd6a70", func := "loop.example/ringoverlay/laws.FnSafe", spec := "fnSafe", unfollowed := true, recurses := true, apart := false, narrowed := true }
def FnSafeUptoSaid : Prop := fnSafeUptoRow.holds Try.pinned (OpenSpec.upto fnSafeSpec)

/-- 'laws.FnSafeSelf', WHERE WHAT IT READS IS OF BULK AT MOST 1048576: true; the input reads as it did. -/
def fnSafeSelfUptoRow : OpenClaim := { program := "ytnoamohpkngbdaa", sum := "29298a3c15f63c9e8eb4c86e13a8dcf313cf032c89cba944e7d41608d3dd6a70", func := "loop.example/ringoverlay/laws.FnSafeSelf", spec := "fnSafeSelf", unfollowed := true, recurses := true, apart := false, narrowed := true }
def FnSafeSelfUptoSaid : Prop := fnSafeSelfUptoRow.holds Try.pinned (OpenSpec.upto fnSafeSelfSpec)

/-- 'laws.FnSafeOrder', WHERE WHAT IT READS IS OF BULK AT MOST 1048576: true; the input reads as it did. -/
def fnSafeOrderUptoRow : OpenClaim := { program := "ytnoamohpkngbdaa", sum := "29298a3c15f63c9e8eb4c86e13a8dcf313cf032c89cba944e7d41608d3dd6a70", func := "loop.example/ringoverlay/laws.FnSafeOrder", spec := "fnSafeOrder", unfollowed := true, recurses := true, apart := false, narrowed := true }
def FnSafeOrderUptoSaid : Prop := fnSafeOrderUptoRow.holds Try.pinned (OpenSpec.upto fnSafeOrderSpec)

/-- 'laws.FnSafeBetween', WHERE WHAT IT READS IS OF BULK AT MOST 1048576: true; the input reads as it did. -/
def fnSafeBetweenUptoRow : OpenClaim := { program := "ytnoamohpkngbdaa", sum := "29298a3c15f63c9e8eb4c86e13a8dcf313cf032c89cba944e7d41608d3dd6a70", func := "loop.example/ringoverlay/laws.FnSafeBetween", spec := "fnSafeBetween", unfollowed := true, recurses := true, apart := false, narrowed := true }
def FnSafeBetweenUptoSaid : Prop := fnSafeBetweenUptoRow.holds Try.pinned (OpenSpec.upto fnSafeBetweenSpec)

/-- 'laws.FnIdealSafe', WHERE WHAT IT READS IS OF BULK AT MOST 1048576: true; the input reads as it did. -/
def fnIdealSafeUptoRow : OpenClaim := { program := "ytnoamohpkngbdaa", sum := "29298a3c15f63c9e8eb4c86e13a8dcf313cf032c89cba944e7d41608d3dd6a70", func := "loop.example/ringoverlay/laws.FnIdealSafe", spec := "fnIdealSafe", unfollowed := true, recurses := true, apart := false, narrowed := true }
def FnIdealSafeUptoSaid : Prop := fnIdealSafeUptoRow.holds Try.pinned (OpenSpec.upto fnIdealSafeSpec)

/-- 'laws.FnIdealNeighbours', WHERE WHAT IT READS IS OF BULK AT MOST 1048576: true; the input reads as it did. -/
def fnIdealNeighboursUptoRow : OpenClaim := { program := "ytnoamohpkngbdaa", sum := "29298a3c15f63c9e8eb4c86e13a8dcf313cf032c89cba944e7d41608d3dd6a70", func := "loop.example/ringoverlay/laws.FnIdealNeighbours", spec := "fnIdealNeighbours", unfollowed := true, recurses := true, apart := false, narrowed := true }
def FnIdealNeighboursUptoSaid : Prop := fnIdealNeighboursUptoRow.holds Try.pinned (OpenSpec.upto fnIdealNeighboursSpec)

/-- 'laws.FnIdealOne', WHERE WHAT IT READS IS OF BULK AT MOST 1048576: true; the input reads as it did. -/
def fnIdealOneUptoRow : OpenClaim := { program := "ytnoamohpkngbdaa", sum := "29298a3c15f63c9e8eb4c86e13a8dcf313cf032c89cba944e7d41608d3dd6a70", func := "loop.example/ringoverlay/laws.FnIdealOne", spec := "fnIdealOne", unfollowed := true, recurses := true, apart := false, narrowed := true }
def FnIdealOneUptoSaid : Prop := fnIdealOneUptoRow.holds Try.pinned (OpenSpec.upto fnIdealOneSpec)

end Rows
end Go.Proofs.Ytnoamohpkngbdaa
