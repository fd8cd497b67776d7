/- The seat's numbers, for a contract of the library's. Written by a program of the prover's (lay.py). -/
import Derived.Test.YtohgcgedbhlnfaaChecked
import Derived.Shelf.SlSortCmp.Insertion1
namespace Go.Proofs.Ytohgcgedbhlnfaa
open Go Go.Proofs
set_option linter.all false
def lsf_ren : Go.Shelf.Ren := ⟨fun | 20 => 136 | n => n, fun | 24 => 3 | 22 => 26 | 3 => 3 | 25 => 51 | 4 => 4 | 0 => 0 | n => n, fun | n => n⟩
theorem lsf : SlLaysF.n20 Try.prog lsf_ren := {
  mixed := by kernel_rfl,
  f20 := ⟨Try.f136.name, by decide, Try.func136.trans (congrArg some (by kernel_rfl))⟩,
  t0 := Try.underlying0,
  a0 := Try.isAgg0,
  z0 := Try.sizeOf0,
  v0 := Try.zeroValue0,
  t3 := Try.underlying3,
  a3 := Try.isAgg3,
  z3 := Try.sizeOf3,
  v3 := Try.zeroValue3,
  t4 := Try.underlying4,
  a4 := Try.isAgg4,
  z4 := Try.sizeOf4,
  v4 := Try.zeroValue4,
  t22 := Try.underlying26,
  a22 := Try.isAgg26,
  z22 := Try.sizeOf26,
  v22 := Try.zeroValue26,
  a24 := Try.isAgg3,
  z24 := Try.sizeOf3,
  t25 := Try.underlying51,
  a25 := Try.isAgg51,
  z25 := Try.sizeOf51,
  v25 := Try.zeroValue51 }
end Go.Proofs.Ytohgcgedbhlnfaa
