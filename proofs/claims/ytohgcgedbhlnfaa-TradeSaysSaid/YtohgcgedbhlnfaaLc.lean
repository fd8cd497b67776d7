/- The seat's numbers, for a contract of the library's. Written by a program of the prover's (lay.py). -/
import Derived.Test.YtohgcgedbhlnfaaChecked
import Derived.Shelf.SlicesE.Index
namespace Go.Proofs.Ytohgcgedbhlnfaa
open Go Go.Proofs
set_option linter.all false
def lcon_ren : Go.Shelf.Ren := ⟨fun | 31 => 88 | 29 => 101 | n => n, fun | 22 => 26 | 23 => 3 | 4 => 4 | 3 => 3 | 0 => 0 | n => n, fun | n => n⟩
theorem lcon : SlLaysE.n31 Try.prog lcon_ren := {
  mixed := by kernel_rfl,
  f29 := ⟨Try.f101.name, by decide, Try.func101.trans (congrArg some (by kernel_rfl))⟩,
  f31 := ⟨Try.f88.name, by decide, Try.func88.trans (congrArg some (by kernel_rfl))⟩,
  t0 := Try.underlying0,
  a0 := Try.isAgg0,
  z0 := Try.sizeOf0,
  v0 := Try.zeroValue0,
  t3 := Try.underlying3,
  a3 := Try.isAgg3,
  z3 := Try.sizeOf3,
  v3 := Try.zeroValue3,
  t4 := Try.underlying4,
  a4 := Try.isAgg4,
  z4 := Try.sizeOf4,
  v4 := Try.zeroValue4,
  t22 := Try.underlying26,
  a22 := Try.isAgg26,
  z22 := Try.sizeOf26,
  v22 := Try.zeroValue26,
  a23 := Try.isAgg3,
  z23 := Try.sizeOf3 }
end Go.Proofs.Ytohgcgedbhlnfaa
