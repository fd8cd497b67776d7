/- Words of a record: joined, cut again, read as numbers. No program in sight. -/
import Derived.Lib.Join
import Derived.Lib.Split
import Derived.Lib.SplitLaws
import Derived.Lib.Fields
import Derived.Lib.Atoi
import Derived.Lib.ItoaNum
namespace Zp
open Go
abbrev Str := List UInt8
/-! ### numbers -/
theorem itoa_nat (n : Int) (h : 0 ≤ n) : Lib.itoa n = Lib.decDigits n.toNat := by unfold Lib.itoa; rw [if_neg (by omega)]
theorem itoa_len (n : Int) (h : 0 ≤ n) (h2 : n ≤ 1000000) : (Lib.itoa n).length ≤ 7 := by
  rw [itoa_nat n h, Lib.decDigits_length]
  have h3 := Lib.nDigits_pos n.toNat
  rcases Nat.lt_or_ge 7 (Lib.nDigits n.toNat) with h4 | h4
  · exfalso
    have key : ∀ k u, u < 10 ^ (k + 1) → Lib.nDigits u ≤ k + 1 := fun k => by
      induction k with
      | zero => intro u hu; rw [Lib.nDigits_small (by omega)]; omega
      | succ k ih =>
        intro u hu
        by_cases h : u < 10
        · rw [Lib.nDigits_small h]; omega
        · rw [Lib.nDigits_big h]
          have := ih (u / 10) (by rw [Nat.pow_succ] at hu; omega)
          omega
    have := key 6 n.toNat (by omega)
    omega
  · exact h4
end Zp
