/- Lengths of what comes in. -/
import Derived.Test.YtmndhhobdakpgaaDoorFl
import Derived.Test.YtmndhhobdakpgaaDoorTa
namespace Go.Proofs.YtmndhhobdakpgaaDoor
open Go FM
set_option linter.all false
theorem lenI {l : List Int} (h : Lens Tryd.prog (.sl .int) 38 l) : l.length ≤ 17592186044416 := by
  have := (h 3 Tryd.underlying38).1
  rw [show Tryd.prog.bytesOf 3 = 8 by kernel_rfl] at this
  have e : reachBytes = 140737488351232 := by decide
  omega
end Go.Proofs.YtmndhhobdakpgaaDoor
