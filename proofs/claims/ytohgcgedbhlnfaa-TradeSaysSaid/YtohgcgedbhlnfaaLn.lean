/- Lengths of what comes in. -/
import Derived.Test.YtohgcgedbhlnfaaFl
import Derived.Test.YtohgcgedbhlnfaaTa
namespace Go.Proofs.Ytohgcgedbhlnfaa
open Go FM
set_option linter.all false
theorem lenI {l : List Int} (h : Lens Try.prog (.sl .int) 26 l) : l.length ≤ 17592186044416 := by
  have := (h 3 Try.underlying26).1
  rw [show Try.prog.bytesOf 3 = 8 by kernel_rfl] at this
  have e : reachBytes = 140737488351232 := by decide
  omega
theorem lenII {l : List (List Int)} (h : Lens Try.prog (.sl (.sl .int)) 22 l) : ∀ r ∈ l, r.length ≤ 17592186044416 := fun r hr => lenI ((h 26 Try.underlying22).2 r hr)
end Go.Proofs.Ytohgcgedbhlnfaa
