/- The library's comparison of two rows of integers. -/
import Derived.Test.YtkkcnppgcnmikaaGreatDoorTanm
import Derived.Test.YtkkcnppgcnmikaaGreatDoorFrnm
namespace Go.Proofs.YtkkcnppgcnmikaaGreatDoor
open Go FM
set_option maxRecDepth 10000
set_option linter.all false
theorem eq_take_succ {a b : List Int} (h : a.length = b.length) {k : Nat} (hk : k < a.length) (hp : a.take k = b.take k) (hx : a[k] = b[k]'(by omega)) : a.take (k+1) = b.take (k+1) := by
  rw [List.take_succ_eq_append_getElem hk, List.take_succ_eq_append_getElem (by omega : k < b.length), hp, hx]
theorem ne_at {a b : List Int} {k : Nat} (hk : k < a.length) (hk' : k < b.length) (hx : a[k] ≠ b[k]) : decide (a = b) = false :=
  decide_eq_false fun h => by subst h; exact hx rfl
theorem equal_spec (a b : List Int) (hb : a.length ≤ 9223372036854775807) : FnSpec Sy.P 25 [.sl false 1 (a.map .int), .sl false 1 (b.map .int)] [.sl false 1 (a.map .int), .sl false 1 (b.map .int)] (.bool (decide (a = b))) := by
  refine FnSpec.enter (S := Sy) 0 Tryz.func25 rfl rfl rfl Tryz.ntmps25 rfl rfl rfl rfl fun v0 => ?_
  by_cases hlen : a.length = b.length
  · (repeat' (first | refine w9x ?_ | (refine w9c ?_ ?_ <;> intro _ <;> try exact w9o) | (refine w9d ?_ ?_ <;> intro _ <;> try exact w9s) | (refine w9q ?_; intro bnil hbnil)))
    refine CW.loop (fun k : Nat => [(0, .av (.sl false 1 (a.map .int))), (1, .av (.sl false 1 (b.map .int))), (12, .av (.int a.length)), (13, .av (.int k))]) (fun k => k ≤ a.length ∧ a.take k = b.take k) (fun k => a.length - k) 0 ⟨Nat.zero_le _, rfl⟩ ⟨rfl, rfl, rfl, rfl, trivial⟩ fun k ⟨hk, hp⟩ => ?_
    by_cases hlt : k < a.length
    · have hx : a[k]? = some a[k] := List.getElem?_eq_getElem hlt
      have hy : b[k]? = some (b[k]'(by omega)) := List.getElem?_eq_getElem (by omega)
      by_cases he : a[k] = b[k]'(by omega)
      · (repeat' (first | refine w9x ?_ | (refine w9c ?_ ?_ <;> intro _ <;> try exact w9o) | (refine w9d ?_ ?_ <;> intro _ <;> try exact w9s) | (refine w9q ?_; intro bnil hbnil)))
        exact ⟨k + 1, ⟨by omega, eq_take_succ hlen hlt hp he⟩, by omega, rfl, rfl, rfl, rfl, trivial⟩
      · (repeat' (first | refine w9x ?_ | (refine w9c ?_ ?_ <;> intro _ <;> try exact w9o) | (refine w9d ?_ ?_ <;> intro _ <;> try exact w9s) | (refine w9q ?_; intro bnil hbnil)))
        rw [ne_at hlt (by omega) he]
        exact .mk rfl rfl rfl
    · (repeat' (first | refine w9x ?_ | (refine w9c ?_ ?_ <;> intro _ <;> try exact w9o) | (refine w9d ?_ ?_ <;> intro _ <;> try exact w9s) | (refine w9q ?_; intro bnil hbnil)))
      obtain rfl : a = b := by rw [List.take_of_length_le (by omega), List.take_of_length_le (by omega)] at hp; exact hp
      simp only [decide_true]
      exact .mk rfl rfl rfl
  · (repeat' (first | refine w9x ?_ | (refine w9c ?_ ?_ <;> intro _ <;> try exact w9o) | (refine w9d ?_ ?_ <;> intro _ <;> try exact w9s) | (refine w9q ?_; intro bnil hbnil)))
    have : decide (a = b) = false := decide_eq_false fun h => hlen (by rw [h])
    rw [this]
    exact .mk rfl rfl rfl
end Go.Proofs.YtkkcnppgcnmikaaGreatDoor
