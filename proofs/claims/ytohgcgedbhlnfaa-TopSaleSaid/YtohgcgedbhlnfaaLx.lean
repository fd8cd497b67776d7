/- The seat's numbers, for a contract of the library's. Written by a program of the prover's (lay.py). -/
import Derived.Test.YtohgcgedbhlnfaaChecked
import Derived.Shelf.Bits.Mul64
namespace Go.Proofs.Ytohgcgedbhlnfaa
open Go Go.Proofs
set_option linter.all false
def lmul_ren : Go.Shelf.Ren := ⟨fun | 212 => 94 | 263 => 112 | 264 => 113 | n => n, fun | 46 => 111 | 51 => 126 | 146 => 127 | 53 => 129 | 148 => 130 | n => n, fun | n => n⟩
theorem lmul : Lays.n212 Try.prog lmul_ren := {
  mixed := by kernel_rfl,
  f212 := Try.func94.trans (congrArg some (by kernel_rfl)),
  f263 := Try.func112.trans (congrArg some (by kernel_rfl)),
  f264 := Try.func113.trans (congrArg some (by kernel_rfl)),
  t46 := Try.underlying111,
  a46 := Try.isAgg111,
  z46 := Try.sizeOf111,
  v46 := Try.zeroValue111,
  t51 := Try.underlying126,
  a51 := Try.isAgg126,
  z51 := Try.sizeOf126,
  v51 := Try.zeroValue126,
  t53 := Try.underlying129,
  a53 := Try.isAgg129,
  z53 := Try.sizeOf129,
  v53 := Try.zeroValue129,
  t146 := Try.underlying127,
  a146 := Try.isAgg127,
  z146 := Try.sizeOf127,
  v146 := Try.zeroValue127,
  t148 := Try.underlying130,
  a148 := Try.isAgg130,
  z148 := Try.sizeOf130,
  v148 := Try.zeroValue130 }
end Go.Proofs.Ytohgcgedbhlnfaa
