/- Rows of numbers by a test: sorting brings them into order. No program in sight. -/
import Derived.Test.YtohgcgedbhlnfaaTf
namespace Go.Proofs.Ytohgcgedbhlnfaa
open Go FM
set_option linter.all false
def setO (o : Nat → Bool) (i x : Nat) : Bool := if x = i then true else o x
def notO (o : Nat → Bool) (x : Nat) : Bool := !(o x)
theorem fl_setO {n : Nat} {o : Nat → Bool} {i : Nat} (hi : i < n) (ho : o i = false) : (fl n (notO (setO o i))).length + 1 = (fl n (notO o)).length := by
  induction n with
  | zero => omega
  | succ n ih =>
    by_cases e : i = n
    · subst e
      have h1 : notO (setO o i) i = false := by unfold notO setO; rw [if_pos rfl]; rfl
      have h2 : notO o i = true := by unfold notO; rw [ho]; rfl
      rw [fl_no h1, fl_yes h2, List.length_append]
      rw [fl_congr fun k hk => show notO (setO o i) k = notO o k by unfold notO setO; rw [if_neg (by omega)]]
      rfl
    · have ih := ih (by omega)
      have hs : notO (setO o i) n = notO o n := by unfold notO setO; rw [if_neg (fun h => e h.symm)]
      cases hb : notO o n with
      | true => rw [fl_yes hb, fl_yes (hs.trans hb), List.length_append, List.length_append]; simp only [List.length_cons, List.length_nil]; omega
      | false => rw [fl_no hb, fl_no (hs.trans hb)]; exact ih
theorem fl_sorted (n : Nat) (f : Nat → Bool) : (fl n f).Pairwise (· ≤ ·) := by
  unfold fl
  rw [List.pairwise_map]
  exact (List.Pairwise.filter _ List.pairwise_lt_range).imp fun h => by omega
theorem fl_nodup (n : Nat) (f : Nat → Bool) : (fl n f).Nodup := by
  unfold fl
  rw [List.Nodup, List.pairwise_map]
  exact (List.Pairwise.filter _ List.pairwise_lt_range).imp fun h => by omega
/-- A row without twins that holds just those of whom the test holds, sorted. -/
theorem sort_fl {l : List Int} {n : Nat} {f : Nat → Bool} (hn : l.Nodup) (hm : ∀ x, x ∈ l ↔ ∃ k : Nat, x = k ∧ k < n ∧ f k = true) : (l.mergeSort fun x y => decide (x ≤ y)) = fl n f := by
  have hp : l.Perm (fl n f) := (List.perm_ext_iff_of_nodup hn (fl_nodup n f)).2 fun x => by rw [hm x, fl_mem]
  have h1 : (l.mergeSort fun x y => decide (x ≤ y)).Pairwise (· ≤ ·) := by
    have := List.pairwise_mergeSort (le := fun x y : Int => decide (x ≤ y)) (fun a b c h1 h2 => by simp only [decide_eq_true_eq] at *; omega) (fun a b => by simp only [Bool.or_eq_true, decide_eq_true_eq]; omega) l
    exact this.imp fun h => by simpa using h
  exact List.Perm.eq_of_pairwise (fun a b _ _ h1 h2 => by omega) h1 (fl_sorted n f) ((List.mergeSort_perm _ _).trans hp)
end Go.Proofs.Ytohgcgedbhlnfaa
