/- Who is left, as a row of numbers. -/
import Derived.Test.YtohgcgedbhlnfaaCl
namespace Go.Proofs.Ytohgcgedbhlnfaa
open Go FM
set_option maxRecDepth 10000
set_option linter.all false
def fl (n : Nat) (f : Nat → Bool) : List Int := ((List.range n).filter f).map fun (k : Nat) => (k : Int)
theorem fl_yes {n : Nat} {f : Nat → Bool} (h : f n = true) : fl (n + 1) f = fl n f ++ [(n : Int)] := by
  unfold fl; rw [List.range_succ, List.filter_append, List.map_append]; simp [h]
theorem fl_no {n : Nat} {f : Nat → Bool} (h : f n = false) : fl (n + 1) f = fl n f := by
  unfold fl; rw [List.range_succ, List.filter_append, List.map_append]; simp [h]
theorem fl_len {n : Nat} {f : Nat → Bool} : (fl n f).length ≤ n := by
  unfold fl; rw [List.length_map]
  have := List.length_filter_le f (List.range n)
  rwa [List.length_range] at this
theorem fl_congr {n : Nat} {f f' : Nat → Bool} (h : ∀ i, i < n → f i = f' i) : fl n f = fl n f' := by
  unfold fl; rw [List.filter_congr fun i hi => h i (List.mem_range.1 hi)]
theorem fl_mem {n : Nat} {f : Nat → Bool} {x : Int} : x ∈ fl n f ↔ ∃ k : Nat, x = k ∧ k < n ∧ f k = true := by
  unfold fl
  simp only [List.mem_map, List.mem_filter, List.mem_range]
  exact ⟨fun ⟨k, ⟨h1, h2⟩, h3⟩ => ⟨k, h3.symm, h1, h2⟩, fun ⟨k, h1, h2, h3⟩ => ⟨k, ⟨h2, h3⟩, h1.symm⟩⟩
theorem fl_true {n : Nat} : fl n (fun _ => true) = (List.range n).map fun (k : Nat) => (k : Int) := by
  unfold fl; rw [List.filter_eq_self.2 fun _ _ => rfl]
theorem fl_filter {n : Nat} {f : Nat → Bool} {p : Int → Bool} : (fl n f).filter p = fl n fun k => f k && p k := by
  unfold fl
  rw [List.filter_map, List.filter_filter]
  congr 1
  exact List.filter_congr fun k _ => by simp [Function.comp, Bool.and_comm]
end Go.Proofs.Ytohgcgedbhlnfaa
