/- Who is left, as a row of numbers. -/
import Derived.Test.YtkkcnppgcnmikaaGreatDoorSlnm
namespace Go.Proofs.YtkkcnppgcnmikaaGreatDoor
open Go FM
set_option maxRecDepth 10000
set_option linter.all false
def fl (n : Nat) (f : Nat → Bool) : List Int := ((List.range n).filter f).map fun (k : Nat) => (k : Int)
theorem fl_yes {n : Nat} {f : Nat → Bool} (h : f n = true) : fl (n + 1) f = fl n f ++ [(n : Int)] := by
  unfold fl; rw [List.range_succ, List.filter_append, List.map_append]; simp [h]
theorem fl_no {n : Nat} {f : Nat → Bool} (h : f n = false) : fl (n + 1) f = fl n f := by
  unfold fl; rw [List.range_succ, List.filter_append, List.map_append]; simp [h]
theorem fl_len {n : Nat} {f : Nat → Bool} : (fl n f).length ≤ n := by
  unfold fl; rw [List.length_map]
  have := List.length_filter_le f (List.range n)
  rwa [List.length_range] at this
theorem fl_congr {n : Nat} {f f' : Nat → Bool} (h : ∀ i, i < n → f i = f' i) : fl n f = fl n f' := by
  unfold fl; rw [List.filter_congr fun i hi => h i (List.mem_range.1 hi)]
theorem fl_mem {n : Nat} {f : Nat → Bool} {x : Int} : x ∈ fl n f ↔ ∃ k : Nat, x = k ∧ k < n ∧ f k = true := by
  unfold fl
  simp only [List.mem_map, List.mem_filter, List.mem_range]
  exact ⟨fun ⟨k, ⟨h1, h2⟩, h3⟩ => ⟨k, h3.symm, h1, h2⟩, fun ⟨k, h1, h2, h3⟩ => ⟨k, ⟨h2, h3⟩, h1.symm⟩⟩
theorem fl_true {n : Nat} : fl n (fun _ => true) = (List.range n).map fun (k : Nat) => (k : Int) := by
  unfold fl; rw [List.filter_eq_self.2 fun _ _ => rfl]
end Go.Proofs.YtkkcnppgcnmikaaGreatDoor

/- Packing: the plain law of the table, and of trying all sets. -/
namespace Go.Proofs.YtkkcnppgcnmikaaGreatDoor
open Go FM
set_option linter.all false
/-- An item: what it weighs, and what it is worth. -/
abbrev It := Int × Int × Unit
abbrev it : It → AV
  | (w, v, _) => .agg [.int w, .int v]
def bad (x : It) : Bool := decide (x.1 < 1 ∨ 100 < x.1 ∨ x.2.1 < 0 ∨ 1000000 < x.2.1)
/-- What is right. -/
structure IOk (l : List It) : Prop where
  len : l.length ≤ 12
  ok : ∀ x ∈ l, 1 ≤ x.1 ∧ x.1 ≤ 100 ∧ 0 ≤ x.2.1 ∧ x.2.1 ≤ 1000000
theorem IOk.tail {x : It} {l : List It} (h : IOk (x :: l)) : IOk l := ⟨by have := h.len; simp only [List.length_cons] at this; omega, fun y hy => h.ok y (List.mem_cons_of_mem _ hy)⟩
theorem IOk.drop {l : List It} (h : IOk l) (k : Nat) : IOk (l.drop k) := ⟨by have := h.len; rw [List.length_drop]; omega, fun y hy => h.ok y (List.mem_of_mem_drop hy)⟩
/-- The most that can be had. -/
def bv : List It → Int → Int
  | [], _ => 0
  | x :: xs, r => if x.1 ≤ r then max (bv xs r) (x.2.1 + bv xs (r - x.1)) else bv xs r
def pk : List It → Int → Nat → List Int
  | [], _, _ => []
  | x :: xs, r, i => if x.1 ≤ r ∧ 0 < x.2.1 ∧ x.2.1 + bv xs (r - x.1) = bv (x :: xs) r then (i : Int) :: pk xs (r - x.1) (i + 1) else pk xs r (i + 1)
/-! ### all sets -/
def inS (b : Nat → Bool) : Nat → List Int
  | 0 => []
  | i + 1 => if b i = true then inS b i ++ [(i : Int)] else inS b i
def sumS (g : Nat → Int) (b : Nat → Bool) : Nat → Int
  | 0 => 0
  | i + 1 => if b i = true then sumS g b i + g i else sumS g b i
def okS (g : Nat → Int) (b : Nat → Bool) : Nat → Bool
  | 0 => true
  | i + 1 => if b i = true then okS g b i && decide (0 < g i) else okS g b i
/-- What one set gives. -/
structure Cd where
  l : List Int
  w : Int
  v : Int
  ok : Bool
def upd (r : Int) (a : List Int × Int) (c : Cd) : List Int × Int := if c.ok = true ∧ c.w ≤ r ∧ a.2 < c.v then (c.l, c.v) else a
/-- The sets, by their numbers. -/
def bits (n s : Nat) : List Bool := (List.range n).map fun i => s.testBit (n - 1 - i)
/-- The reference's state behind the first k sets. -/
def setC (l : List It) (s i : Nat) : Cd :=
  let n := l.length
  let b := fun i => s.testBit (n - 1 - i)
  ⟨inS b i, sumS (fun i => (l.getD i (0, 0, ())).1) b i, sumS (fun i => (l.getD i (0, 0, ())).2.1) b i, okS (fun i => (l.getD i (0, 0, ())).2.1) b i⟩
def mo (l : List It) (r : Int) : Nat → List Int × Int
  | 0 => ([], -1)
  | k + 1 => upd r (mo l r k) (setC l (2 ^ l.length - 1 - k) l.length)
end Go.Proofs.YtkkcnppgcnmikaaGreatDoor

/- The best of several by a ratio: forward with 'more', backward with 'as much or more'. No program in sight. -/
namespace Go.Proofs.YtkkcnppgcnmikaaGreatDoor
set_option linter.all false
def fb (e : Nat → Bool) (w v : Nat → Int) : Nat → Int
  | 0 => -1
  | i + 1 => if e i = true ∧ (fb e w v i < 0 ∨ v (fb e w v i).toNat * w i < v i * w (fb e w v i).toNat) then (i : Int) else fb e w v i
def bb (e : Nat → Bool) (w v : Nat → Int) (n : Nat) : Nat → Int
  | 0 => -1
  | k + 1 => if e (n - 1 - k) = true ∧ (bb e w v n k < 0 ∨ v (bb e w v n k).toNat * w (n - 1 - k) ≤ v (n - 1 - k) * w (bb e w v n k).toNat) then ((n - 1 - k : Nat) : Int) else bb e w v n k
section
variable {e : Nat → Bool} {w v : Nat → Int}
theorem fb_range (n : Nat) : fb e w v n = -1 ∨ ∃ k : Nat, fb e w v n = k ∧ k < n ∧ e k = true := by
  induction n with
  | zero => exact .inl rfl
  | succ n ih =>
    unfold fb
    split
    · rename_i h; exact .inr ⟨n, rfl, Nat.lt_succ_self _, h.1⟩
    · rcases ih with h | ⟨k, h1, h2, h3⟩
      · exact .inl h
      · exact .inr ⟨k, h1, by omega, h3⟩
end
end Go.Proofs.YtkkcnppgcnmikaaGreatDoor

/- Rows of numbers by a test: sorting brings them into order. No program in sight. -/
namespace Go.Proofs.YtkkcnppgcnmikaaGreatDoor
open Go FM
set_option linter.all false
def setO (o : Nat → Bool) (i x : Nat) : Bool := if x = i then true else o x
def notO (o : Nat → Bool) (x : Nat) : Bool := !(o x)
theorem fl_setO {n : Nat} {o : Nat → Bool} {i : Nat} (hi : i < n) (ho : o i = false) : (fl n (notO (setO o i))).length + 1 = (fl n (notO o)).length := by
  induction n with
  | zero => omega
  | succ n ih =>
    by_cases e : i = n
    · subst e
      have h1 : notO (setO o i) i = false := by unfold notO setO; rw [if_pos rfl]; rfl
      have h2 : notO o i = true := by unfold notO; rw [ho]; rfl
      rw [fl_no h1, fl_yes h2, List.length_append]
      rw [fl_congr fun k hk => show notO (setO o i) k = notO o k by unfold notO setO; rw [if_neg (by omega)]]
      rfl
    · have ih := ih (by omega)
      have hs : notO (setO o i) n = notO o n := by unfold notO setO; rw [if_neg (fun h => e h.symm)]
      cases hb : notO o n with
      | true => rw [fl_yes hb, fl_yes (hs.trans hb), List.length_append, List.length_append]; simp only [List.length_cons, List.length_nil]; omega
      | false => rw [fl_no hb, fl_no (hs.trans hb)]; exact ih
theorem fl_sorted (n : Nat) (f : Nat → Bool) : (fl n f).Pairwise (· ≤ ·) := by
  unfold fl
  rw [List.pairwise_map]
  exact (List.Pairwise.filter _ List.pairwise_lt_range).imp fun h => by omega
theorem fl_nodup (n : Nat) (f : Nat → Bool) : (fl n f).Nodup := by
  unfold fl
  rw [List.Nodup, List.pairwise_map]
  exact (List.Pairwise.filter _ List.pairwise_lt_range).imp fun h => by omega
/-- A row without twins that holds just those of whom the test holds, sorted. -/
theorem sort_fl {l : List Int} {n : Nat} {f : Nat → Bool} (hn : l.Nodup) (hm : ∀ x, x ∈ l ↔ ∃ k : Nat, x = k ∧ k < n ∧ f k = true) : (l.mergeSort fun x y => decide (x ≤ y)) = fl n f := by
  have hp : l.Perm (fl n f) := (List.perm_ext_iff_of_nodup hn (fl_nodup n f)).2 fun x => by rw [hm x, fl_mem]
  have h1 : (l.mergeSort fun x y => decide (x ≤ y)).Pairwise (· ≤ ·) := by
    have := List.pairwise_mergeSort (le := fun x y : Int => decide (x ≤ y)) (fun a b c h1 h2 => by simp only [decide_eq_true_eq] at *; omega) (fun a b => by simp only [Bool.or_eq_true, decide_eq_true_eq]; omega) l
    exact this.imp fun h => by simpa using h
  exact List.Perm.eq_of_pairwise (fun a b _ _ h1 h2 => by omega) h1 (fl_sorted n f) ((List.mergeSort_perm _ _).trans hp)
end Go.Proofs.YtkkcnppgcnmikaaGreatDoor
