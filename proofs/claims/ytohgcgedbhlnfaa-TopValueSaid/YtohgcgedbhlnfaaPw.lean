/- Package power: what its functions compute. -/
import Derived.Test.YtohgcgedbhlnfaaTa
import Derived.Test.YtohgcgedbhlnfaaFz
namespace Go.Proofs.Ytohgcgedbhlnfaa
open Go FM
set_option maxRecDepth 10000
set_option linter.all false
/-- P29. -/
def pwErr (w : List Int) (q : Int) : Int :=
  if w.length < 1 ∨ 6 < w.length then 2 else if w.any (fun x => decide (x < 0 ∨ 1000 < x)) then 1 else if q < 1 ∨ w.sum < q then 3 else 0
theorem sum_take_succ (l : List Int) (k : Nat) (h : k < l.length) : (l.take k).sum + l[k] = (l.take (k+1)).sum := by
  rw [List.take_succ_eq_append_getElem h]; simp only [List.sum_append, List.sum_cons, List.sum_nil]; omega
theorem any_take_succ {α : Type} (p : α → Bool) (l : List α) (k : Nat) (h : k < l.length) : (l.take (k+1)).any p = ((l.take k).any p || p l[k]) := by
  rw [List.take_succ_eq_append_getElem h, List.any_append]; simp
theorem any_of_get {α : Type} {p : α → Bool} {l : List α} {k : Nat} (h : k < l.length) (hp : p l[k] = true) : l.any p = true := List.any_eq_true.2 ⟨l[k], List.getElem_mem h, hp⟩
theorem sum_bound (l : List Int) (h : l.any (fun x => decide (x < 0 ∨ 1000 < x)) = false) : 0 ≤ l.sum ∧ l.sum ≤ 1000 * l.length := by
  induction l with
  | nil => simp
  | cons x l ih =>
    simp only [List.any_cons, Bool.or_eq_false_iff, decide_eq_false_iff_not] at h
    have := ih h.2
    simp only [List.sum_cons, List.length_cons]
    omega
theorem pwErr_large {w : List Int} {q : Int} (h : w.length < 1 ∨ 6 < w.length) : pwErr w q = 2 := if_pos h
theorem pwErr_arg {w : List Int} {q : Int} (h : ¬ (w.length < 1 ∨ 6 < w.length)) {k : Nat} (hk : k < w.length) (hx : w[k] < 0 ∨ 1000 < w[k]) : pwErr w q = 1 := by
  unfold pwErr; rw [if_neg h, if_pos (any_of_get hk (decide_eq_true hx))]
theorem pwErr_form {w : List Int} {q : Int} (h : ¬ (w.length < 1 ∨ 6 < w.length)) (ha : w.any (fun x => decide (x < 0 ∨ 1000 < x)) = false) (hq : q < 1 ∨ w.sum < q) : pwErr w q = 3 := by
  unfold pwErr; rw [if_neg h, if_neg (by rw [ha]; simp), if_pos hq]
theorem pwErr_ok {w : List Int} {q : Int} (h : ¬ (w.length < 1 ∨ 6 < w.length)) (ha : w.any (fun x => decide (x < 0 ∨ 1000 < x)) = false) (hq : ¬ (q < 1 ∨ w.sum < q)) : pwErr w q = 0 := by
  unfold pwErr; rw [if_neg h, if_neg (by rw [ha]; simp), if_neg hq]
/-- The weight of a set. -/
def hv : List Int → Nat → Int
  | [], _ => 0
  | x :: r, s => x * ((s % 2 : Nat) : Int) + hv r (s / 2)
theorem hv_take_succ : ∀ (l : List Int) (k s : Nat) (h : k < l.length), hv (l.take (k+1)) s = hv (l.take k) s + l[k] * ((shr s k % 2 : Nat) : Int)
  | [], k, s, h => by simp at h
  | x :: r, 0, s, _ => by simp [hv, shr]
  | x :: r, k + 1, s, h => by
    have ih := hv_take_succ r k (s / 2) (by simpa using h)
    simp only [List.take_succ_cons, hv, List.getElem_cons_succ]
    rw [ih]
    unfold shr
    rw [Nat.div_div_eq_div_mul, show 2 * 2 ^ k = 2 ^ (k + 1) by rw [Nat.pow_succ]; omega]
    omega
def okW (w : List Int) : Prop := w.length ≤ 6 ∧ ∀ x ∈ w, 0 ≤ x ∧ x ≤ 1000
theorem okW.tail {x : Int} {w : List Int} (h : okW (x :: w)) : (0 ≤ x ∧ x ≤ 1000) ∧ okW w := ⟨h.2 x (List.mem_cons_self ..), by have := h.1; simp at this; omega, fun y hy => h.2 y (List.mem_cons_of_mem _ hy)⟩
theorem mul_bit (x : Int) (s : Nat) : x * ((s % 2 : Nat) : Int) = if s % 2 = 1 then x else 0 := by
  rcases Nat.mod_two_eq_zero_or_one s with h | h <;> simp [h]
theorem hv_bound : ∀ (w : List Int) (s : Nat), (∀ x ∈ w, 0 ≤ x ∧ x ≤ 1000) → 0 ≤ hv w s ∧ hv w s ≤ 1000 * w.length
  | [], s, _ => by simp [hv]
  | x :: r, s, h => by
    have ih := hv_bound r (s / 2) fun y hy => h y (List.mem_cons_of_mem _ hy)
    have hx := h x (List.mem_cons_self ..)
    simp only [hv, mul_bit, List.length_cons]
    split <;> omega
end Go.Proofs.Ytohgcgedbhlnfaa
