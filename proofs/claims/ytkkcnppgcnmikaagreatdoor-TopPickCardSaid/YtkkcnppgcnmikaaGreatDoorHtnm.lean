/- slices.Delete of one offer: walked. -/
import Derived.Test.YtkkcnppgcnmikaaGreatDoorHpnm
import Derived.Test.YtkkcnppgcnmikaaGreatDoorFsnm
import Derived.Laws.IdiomCopy
import Derived.Lib.Overlaps
import Derived.Lib.AppendZerosOnto
import Derived.Deep.RegionLaw
import Derived.Lib.SliceRun
import Derived.Shelf.SlicesE.Kit
import Derived.Shelf.Spec.SlicesInsert
namespace Go.Proofs.YtkkcnppgcnmikaaGreatDoor
open Go FM Go.Proofs Go.RowKit Go.Lib Go.Shelf
set_option linter.all false
set_option maxHeartbeats 4000000
set_option maxRecDepth 100000
theorem noSh_dls {l : List Dl} : NoSh (.sl true 6 (l.map dlA)) := .sl fun y hy => by obtain ⟨z, _, rfl⟩ := List.mem_map.1 hy; exact noSh_aggL rfl
end Go.Proofs.YtkkcnppgcnmikaaGreatDoor
