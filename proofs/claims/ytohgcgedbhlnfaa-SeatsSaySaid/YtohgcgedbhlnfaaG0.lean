/- What holds of every world that a call begins in: nothing, here. -/
import Derived.WalkKit
namespace FM
open Go
def GlobB (_ : Nat) : Prop := False
def GlobP (_ : World) : Prop := True
theorem GlobP.keep {w w' : World} (_ : ∀ g, GlobB g → w'.heap[g]? = w.heap[g]?) (_ : GlobP w) : GlobP w' := trivial
end FM
