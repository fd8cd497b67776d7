/- The seat's numbers, for a contract of the library's. Written by a program of the prover's (lay.py). -/
import Derived.Test.YtjhkeilampkihaaChecked
import Derived.Shelf.SlicesE.Index
namespace Go.Proofs.Ytjhkeilampkihaa
open Go Go.Proofs
set_option linter.all false
def lcon_ren : Go.Shelf.Ren := ⟨fun | 31 => 121 | 29 => 63 | n => n, fun | 22 => 35 | 23 => 3 | 4 => 4 | 3 => 3 | 0 => 0 | n => n, fun | n => n⟩
theorem lcon : SlLaysE.n31 Try.prog lcon_ren := {
  mixed := by kernel_rfl,
  f29 := ⟨Try.f63.name, by decide, Try.func63.trans (congrArg some (by kernel_rfl))⟩,
  f31 := ⟨Try.f121.name, by decide, Try.func121.trans (congrArg some (by kernel_rfl))⟩,
  t0 := Try.underlying0,
  a0 := Try.isAgg0,
  z0 := Try.sizeOf0,
  v0 := Try.zeroValue0,
  t3 := Try.underlying3,
  a3 := Try.isAgg3,
  z3 := Try.sizeOf3,
  v3 := Try.zeroValue3,
  t4 := Try.underlying4,
  a4 := Try.isAgg4,
  z4 := Try.sizeOf4,
  v4 := Try.zeroValue4,
  t22 := Try.underlying35,
  a22 := Try.isAgg35,
  z22 := Try.sizeOf35,
  v22 := Try.zeroValue35,
  a23 := Try.isAgg3,
  z23 := Try.sizeOf3 }
end Go.Proofs.Ytjhkeilampkihaa
