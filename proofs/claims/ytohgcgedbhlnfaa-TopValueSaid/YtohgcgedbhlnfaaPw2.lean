/- Package power, its reference, more. -/
import Derived.Test.YtohgcgedbhlnfaaPw
namespace Go.Proofs.Ytohgcgedbhlnfaa
open Go FM
set_option maxRecDepth 10000
set_option linter.all false
def fact : Nat → Nat
  | 0 => 1
  | n + 1 => (n + 1) * fact n
theorem fact_le : ∀ n, n ≤ 6 → fact n ≤ 720 := by decide
end Go.Proofs.Ytohgcgedbhlnfaa
