/-
  Plain theory of leases; no program in sight.
-/
import Derived.Test.YtdcjacgaakpejaaDoorPlain
import Derived.Test.YtdcjacgaakpejaaDoorTri
namespace Go.Proofs.YtdcjacgaakpejaaDoor
open Go.RowKit

def okT (x : Int) : Bool := inR x 0 999
def timAll (xs : List Int) : Bool := allBelow (fun i => okT (xs.getD i 0)) xs.length
theorem timAll1 (a : Int) : timAll [a] = okT a := by simp [timAll, allBelow]
/-- Lease number k is in order. -/
def lsAt (xs : List Tr) (k : Nat) : Bool :=
  okP (xs.getD k default).a && okP (xs.getD k default).b && okT (xs.getD k default).c && (decide (k = 0) || decide ((xs.getD (k - 1) default).a < (xs.getD k default).a))
def lsAll (xs : List Tr) : Bool := allBelow (lsAt xs) xs.length
def lsValid (xs : List Tr) : Bool := inR xs.length 1 12 && lsAll xs

end Go.Proofs.YtdcjacgaakpejaaDoor
