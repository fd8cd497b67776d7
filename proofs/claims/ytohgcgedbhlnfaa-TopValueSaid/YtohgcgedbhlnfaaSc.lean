/- Tables: points from which nobody would go. -/
import Derived.Test.YtohgcgedbhlnfaaSb
namespace Go.Proofs.Ytohgcgedbhlnfaa
open Go FM
set_option maxRecDepth 10000
set_option maxHeartbeats 1600000
set_option linter.all false
abbrev pt2 (p : Nat × Nat) : AV := .agg [.int p.1, .int p.2]
def ptR (P : Nat → Nat → Bool) (i k : Nat) : List (Nat × Nat) := ((List.range k).filter (P i)).map fun k => (i, k)
def ptA (P : Nat → Nat → Bool) (g i : Nat) : List (Nat × Nat) := (List.range i).flatMap fun i => ptR P i g
def ptL (P : Nat → Nat → Bool) (g i k : Nat) : List (Nat × Nat) := ptA P g i ++ ptR P i k
theorem ptL_zero {P : Nat → Nat → Bool} {g i : Nat} : ptL P g i 0 = ptA P g i := List.append_nil _
theorem ptL_end {P : Nat → Nat → Bool} {g i : Nat} : ptL P g i g = ptA P g (i + 1) := by unfold ptL ptA; rw [List.range_succ, List.flatMap_append]; simp
theorem ptR_yes {P : Nat → Nat → Bool} {i k : Nat} (h : P i k = true) : ptR P i (k + 1) = ptR P i k ++ [(i, k)] := by
  unfold ptR; rw [List.range_succ, List.filter_append, List.map_append]; simp [h]
theorem ptR_no {P : Nat → Nat → Bool} {i k : Nat} (h : P i k = false) : ptR P i (k + 1) = ptR P i k := by
  unfold ptR; rw [List.range_succ, List.filter_append, List.map_append]; simp [h]
theorem ptL_yes {P : Nat → Nat → Bool} {g i k : Nat} (h : P i k = true) : ptL P g i (k + 1) = ptL P g i k ++ [(i, k)] := by unfold ptL; rw [ptR_yes h, List.append_assoc]
theorem ptL_no {P : Nat → Nat → Bool} {g i k : Nat} (h : P i k = false) : ptL P g i (k + 1) = ptL P g i k := by unfold ptL; rw [ptR_no h]
theorem ptR_len {P : Nat → Nat → Bool} {i k : Nat} : (ptR P i k).length ≤ k := by
  unfold ptR; rw [List.length_map]; have := List.length_filter_le (P i) (List.range k); rw [List.length_range] at this; exact this
theorem ptA_len {P : Nat → Nat → Bool} {g : Nat} : ∀ i, (ptA P g i).length ≤ i * g
  | 0 => by simp [ptA]
  | i + 1 => by
    have := ptA_len (P := P) (g := g) i
    have := ptR_len (P := P) (i := i) (k := g)
    rw [← ptL_end]; unfold ptL; rw [List.length_append, Nat.add_mul]; omega
theorem ptL_len {P : Nat → Nat → Bool} {g i k : Nat} (hi : i ≤ 6) (hg : g ≤ 6) (hk : k ≤ 6) : (ptL P g i k).length ≤ 42 := by
  have := ptA_len (P := P) (g := g) i
  have := ptR_len (P := P) (i := i) (k := k)
  have := Nat.mul_le_mul hi hg
  unfold ptL; rw [List.length_append]; omega
theorem ptR_congr {P Q : Nat → Nat → Bool} {i k : Nat} (h : ∀ y, y < k → P i y = Q i y) : ptR P i k = ptR Q i k := by
  unfold ptR; congr 1
  exact List.filter_congr fun y hy => h y (List.mem_range.1 hy)
theorem ptA_congr {P Q : Nat → Nat → Bool} {g i : Nat} (h : ∀ x y, x < i → y < g → P x y = Q x y) : ptA P g i = ptA Q g i := by
  unfold ptA
  rw [List.flatMap_def, List.flatMap_def, List.map_congr_left fun x hx => ptR_congr fun y hy => h x y (List.mem_range.1 hx) hy]
theorem all_take {α : Type} {p : α → Bool} {l : List α} {k : Nat} (h : k < l.length) : (l.take (k + 1)).all p = ((l.take k).all p && p l[k]) := by
  rw [List.take_succ_eq_append_getElem h, List.all_append]; simp
def leA (x : Int) (l : List Int) : Bool := l.all fun y => decide (x ≤ y)
def geA (x : Int) (l : List Int) : Bool := l.all fun y => decide (y ≤ x)
theorem leA_take {x : Int} {l : List Int} {k : Nat} (h : k < l.length) : leA x (l.take (k + 1)) = (leA x (l.take k) && decide (x ≤ l[k])) := all_take h
theorem geA_take {x : Int} {l : List Int} {k : Nat} (h : k < l.length) : geA x (l.take (k + 1)) = (geA x (l.take k) && decide (l[k] ≤ x)) := all_take h
theorem leA_iff {x : Int} {l : List Int} : leA x l = true ↔ ∀ y ∈ l, x ≤ y := by simp [leA]
theorem geA_iff {x : Int} {l : List Int} : geA x l = true ↔ ∀ y ∈ l, y ≤ x := by simp [geA]
def pS (M : List (List Int)) (i k : Nat) : Bool := leA ((M.getD i []).getD k 0) (M.getD i []) && geA ((M.getD i []).getD k 0) (col M k)
/-! ### comparison -/
theorem guard2 : Sy.P.eqGuardType Sy.P.depth 84 = false := by kernel_rfl
end Go.Proofs.Ytohgcgedbhlnfaa
