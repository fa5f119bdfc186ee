/-
  Replicas of a register, in plain terms: a version, a writer, a value.
-/
import Derived.Test.YtkefnmmpipeppaaTri
namespace Go.Proofs.Ytkefnmmpipeppaa

/-- Is a older than b? -/
def rOlder (a b : Tr) : Bool := decide (a.a < b.a) || (decide (a.a = b.a) && decide (a.b < b.b))
/-- What a write leaves of a replica. -/
def rPut (x y : Tr) : Tr := if rOlder y x then x else y
def Tr.cell (x : Tr) (i : Nat) : Value := .int .i64 (if i = 0 then x.a else if i = 1 then x.b else x.c)
end Go.Proofs.Ytkefnmmpipeppaa
