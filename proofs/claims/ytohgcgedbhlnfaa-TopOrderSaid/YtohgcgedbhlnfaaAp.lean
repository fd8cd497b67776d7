/- All orders of a row, plain. -/
import Derived.Test.YtohgcgedbhlnfaaIo
namespace Go.Proofs.Ytohgcgedbhlnfaa
open Go FM
set_option maxRecDepth 10000
set_option linter.all false
abbrev rowS (r : List Int) : AV := .sl false 1 (r.map .int)
/-- All orders of a row, each way to pick the first. -/
def allOrders : Nat → List Int → List (List Int)
  | 0, _ => [[]]
  | n + 1, l => (List.range l.length).flatMap fun i => (allOrders n (l.take i ++ l.drop (i + 1))).map fun r => l.getD i 0 :: r
theorem noSh_row {l : List Int} : NoSh (.sl true 1 (l.map .int)) := noSh_ints
def ordersTo (n : Nat) (l : List Int) (i : Nat) : List (List Int) := (List.range i).flatMap fun i => (allOrders n (l.take i ++ l.drop (i + 1))).map fun r => l.getD i 0 :: r
theorem length_flatMap_const {α β : Type} {f : α → List β} {m : Nat} : ∀ {l : List α}, (∀ x ∈ l, (f x).length = m) → (l.flatMap f).length = l.length * m
  | [], _ => by simp
  | x :: l, h => by
    rw [List.flatMap_cons, List.length_append, h x (List.mem_cons_self ..), length_flatMap_const fun y hy => h y (List.mem_cons_of_mem _ hy), List.length_cons, Nat.add_mul]
    omega
theorem cutOut_length {l : List Int} {n i : Nat} (hl : l.length = n + 1) (hi : i < l.length) : (l.take i ++ l.drop (i + 1)).length = n := by
  rw [List.length_append, List.length_take, List.length_drop]; omega
theorem allOrders_length : ∀ (n : Nat) (l : List Int), l.length = n → (allOrders n l).length = fact n
  | 0, l, _ => rfl
  | n + 1, l, hl => by
    simp only [allOrders]
    rw [length_flatMap_const (m := fact n) fun i hi => by
      rw [List.length_map]
      exact allOrders_length n _ (cutOut_length hl (List.mem_range.1 hi))]
    rw [List.length_range, hl]; rfl
theorem ordersTo_length (n : Nat) (l : List Int) (hl : l.length = n + 1) (i : Nat) (hi : i ≤ l.length) : (ordersTo n l i).length = i * fact n := by
  unfold ordersTo
  rw [length_flatMap_const (m := fact n) fun j hj => by
    rw [List.length_map]
    exact allOrders_length n _ (cutOut_length hl (by have := List.mem_range.1 hj; omega)), List.length_range]
theorem allOrders_row : ∀ (n : Nat) (l : List Int), l.length = n → ∀ r ∈ allOrders n l, r.length = n
  | 0, l, _, r, hr => by simp [allOrders] at hr; subst hr; rfl
  | n + 1, l, hl, r, hr => by
    simp only [allOrders, List.mem_flatMap, List.mem_map, List.mem_range] at hr
    obtain ⟨i, hi, r', hr', rfl⟩ := hr
    rw [List.length_cons, allOrders_row n _ (cutOut_length hl hi) r' hr']
theorem ordersTo_succ (n : Nat) (l : List Int) (i : Nat) (hi : i < l.length) : ordersTo n l (i + 1) = ordersTo n l i ++ (allOrders n (l.take i ++ l.drop (i + 1))).map (fun r => l[i] :: r) := by
  unfold ordersTo
  rw [List.range_succ, List.flatMap_append]
  simp [hi]
theorem take_map_succ {α β : Type} (f : α → β) (l : List α) (j : Nat) (h : j < l.length) (pre : List β) : (pre ++ (l.take j).map f) ++ [f l[j]] = pre ++ (l.take (j+1)).map f := by
  rw [List.take_succ_eq_append_getElem h, List.map_append, List.append_assoc]; rfl
theorem fact_mul_le : ∀ i n, n ≤ 5 → i ≤ n + 1 → i * fact n ≤ 720 := by
  intro i n hn hi
  have h1 : i * fact n ≤ (n + 1) * fact n := Nat.mul_le_mul_right _ hi
  have h2 := fact_le (n + 1) (by omega)
  have h3 : fact (n + 1) = (n + 1) * fact n := rfl
  omega
end Go.Proofs.Ytohgcgedbhlnfaa
