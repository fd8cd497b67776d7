/- The seat's numbers, for a contract of the library's. Written by a program of the prover's (lay.py). -/
import Derived.Test.YtohgcgedbhlnfaaChecked
import Derived.Shelf.SlicesE.DeleteFunc
namespace Go.Proofs.Ytohgcgedbhlnfaa
open Go Go.Proofs
set_option linter.all false
def ldel_ren : Go.Shelf.Ren := ⟨fun | 10 => 11 | 6 => 48 | n => n, fun | 22 => 26 | 23 => 3 | 25 => 29 | 3 => 3 | 4 => 4 | 0 => 0 | n => n, fun | n => n⟩
theorem ldel : SlLaysH.n10 Try.prog ldel_ren := {
  mixed := by kernel_rfl,
  f6 := ⟨Try.f48.name, by decide, Try.func48.trans (congrArg some (by kernel_rfl))⟩,
  f10 := ⟨Try.f11.name, by decide, Try.func11.trans (congrArg some (by kernel_rfl))⟩,
  t0 := Try.underlying0,
  a0 := Try.isAgg0,
  z0 := Try.sizeOf0,
  v0 := Try.zeroValue0,
  t3 := Try.underlying3,
  a3 := Try.isAgg3,
  z3 := Try.sizeOf3,
  v3 := Try.zeroValue3,
  t4 := Try.underlying4,
  a4 := Try.isAgg4,
  z4 := Try.sizeOf4,
  v4 := Try.zeroValue4,
  t22 := Try.underlying26,
  a22 := Try.isAgg26,
  z22 := Try.sizeOf26,
  v22 := Try.zeroValue26,
  a23 := Try.isAgg3,
  z23 := Try.sizeOf3,
  t25 := Try.underlying29,
  a25 := Try.isAgg29,
  z25 := Try.sizeOf29,
  v25 := Try.zeroValue29 }
end Go.Proofs.Ytohgcgedbhlnfaa
