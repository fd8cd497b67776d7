/- Package power: Turns. -/
import Derived.Test.YtohgcgedbhlnfaaPw3
namespace Go.Proofs.Ytohgcgedbhlnfaa
open Go FM
set_option maxRecDepth 10000
set_option linter.all false
/-- How many of the first players a set holds. -/
def pc : Nat → Nat → Nat
  | 0, _ => 0
  | k + 1, s => pc k s + shr s k % 2
theorem pc_le : ∀ k s, pc k s ≤ k
  | 0, _ => Nat.le_refl _
  | k + 1, s => by have := pc_le k s; simp only [pc]; omega
theorem pc_pos {s j : Nat} (h : shr s j % 2 = 1) : ∀ k, j < k → 1 ≤ pc k s
  | 0, hk => by omega
  | k + 1, hk => by
    simp only [pc]
    by_cases e : j = k
    · subst e; omega
    · have := pc_pos h k (by omega); omega
def gT (w : List Int) (q : Int) (s j : Nat) : Int := if swing w q s j then ((fact (pc w.length s - 1) * fact (w.length - pc w.length s) : Nat) : Int) else 0
theorem gT_pos {w : List Int} {q : Int} {s j : Nat} (h : swing w q s j) : gT w q s j = ((fact (pc w.length s - 1) * fact (w.length - pc w.length s) : Nat) : Int) := if_pos h
theorem gT_neg {w : List Int} {q : Int} {s j : Nat} (h : ¬ swing w q s j) : gT w q s j = 0 := if_neg h
theorem fact2_le (n p : Nat) (hn : n ≤ 6) (hp : p ≤ n) : fact (p - 1) * fact (n - p) ≤ 518400 := by
  have h1 := fact_le (p - 1) (by omega)
  have h2 := fact_le (n - p) (by omega)
  calc _ ≤ 720 * 720 := Nat.mul_le_mul h1 h2
    _ = 518400 := rfl
theorem gT_le (w : List Int) (q : Int) (hw : w.length ≤ 6) (s j : Nat) : 0 ≤ gT w q s j ∧ gT w q s j ≤ 518400 := by
  have := fact2_le w.length (pc w.length s) hw (pc_le _ _)
  unfold gT; split <;> omega
/-- What Turns answers. -/
def turnsL (w : List Int) (q : Int) : List Int := accW (gT w q) w.length (2 ^ w.length) 0
end Go.Proofs.Ytohgcgedbhlnfaa
