/- Package power: Wins, Swings, Turns. -/
import Derived.Test.YtohgcgedbhlnfaaPw2
namespace Go.Proofs.Ytohgcgedbhlnfaa
open Go FM
set_option maxRecDepth 10000
set_option linter.all false
theorem pwErr_zero {w : List Int} {q : Int} (h : pwErr w q = 0) : okW w ∧ 1 ≤ w.length ∧ 1 ≤ q ∧ q ≤ w.sum := by
  unfold pwErr at h
  split at h
  · omega
  · rename_i h1
    split at h
    · omega
    · rename_i h2
      split at h
      · omega
      · rename_i h3
        refine ⟨⟨by omega, fun x hx => ?_⟩, by omega, by omega, by omega⟩
        rw [List.any_eq_true] at h2
        have : ¬ (x < 0 ∨ 1000 < x) := fun hc => h2 ⟨x, hx, by simpa using hc⟩
        omega
theorem pwErr_range (w : List Int) (q : Int) : 0 ≤ pwErr w q ∧ pwErr w q ≤ 3 := by
  unfold pwErr; split <;> (try split) <;> (try split) <;> omega
theorem pow_len {n : Nat} (h : n ≤ 6) : 2 ^ n ≤ 64 := by
  have : 2 ^ n ≤ 2 ^ 6 := Nat.pow_le_pow_right (by decide) h
  omega
def winsR (w : List Int) (q set : Int) : Bool × Int :=
  if pwErr w q ≠ 0 then (false, pwErr w q) else if set < 0 ∨ ((2 ^ w.length : Nat) : Int) ≤ set then (false, 1) else (decide (q ≤ hv w set.toNat), 0)
abbrev off (s j : Nat) : Nat := s ^^^ (s &&& 2 ^ j)
theorem off_le (s j : Nat) (hs : s < 64) : off s j < 64 := Nat.xor_lt_two_pow (n := 6) hs (Nat.lt_of_le_of_lt Nat.and_le_left hs)
def swing (w : List Int) (q : Int) (s j : Nat) : Prop := shr s j % 2 = 1 ∧ q ≤ hv w s ∧ ¬ q ≤ hv w (off s j)
instance (w : List Int) (q : Int) (s j : Nat) : Decidable (swing w q s j) := by unfold swing; exact inferInstance
def gS (w : List Int) (q : Int) (s j : Nat) : Int := if swing w q s j then 1 else 0
theorem gS_pos {w : List Int} {q : Int} {s j : Nat} (h : swing w q s j) : gS w q s j = 1 := if_pos h
theorem gS_neg {w : List Int} {q : Int} {s j : Nat} (h : ¬ swing w q s j) : gS w q s j = 0 := if_neg h
theorem gS_le (w : List Int) (q : Int) (s j : Nat) : 0 ≤ gS w q s j ∧ gS w q s j ≤ 1 := by unfold gS; split <;> omega
/-- What Swings answers. -/
def swingsL (w : List Int) (q : Int) : List Int := accW (gS w q) w.length (2 ^ w.length) 0
end Go.Proofs.Ytohgcgedbhlnfaa
