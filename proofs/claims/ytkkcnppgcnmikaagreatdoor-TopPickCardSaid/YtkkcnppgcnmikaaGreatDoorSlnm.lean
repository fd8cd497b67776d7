/- The library's searches and comparisons of rows. -/
import Derived.Test.YtkkcnppgcnmikaaGreatDoorEqnm
namespace Go.Proofs.YtkkcnppgcnmikaaGreatDoor
open Go FM
set_option maxRecDepth 10000
set_option linter.all false
/-- Where the first is of which a test holds. -/
def fidx {α : Type} (p : α → Bool) : List α → Nat → Int
  | [], _ => -1
  | x :: r, k => bif p x then (k : Int) else fidx p r (k + 1)
theorem fidx_drop {α : Type} {p : α → Bool} {l : List α} {k : Nat} (h : k < l.length) : fidx p (l.drop k) k = bif p l[k] then (k : Int) else fidx p (l.drop (k + 1)) (k + 1) := by
  rw [List.drop_eq_getElem_cons h]; rfl
theorem fidx_end {α : Type} {p : α → Bool} {l : List α} : fidx p (l.drop l.length) l.length = -1 := by rw [List.drop_length]; rfl
theorem fidx_nonneg {α : Type} {p : α → Bool} : ∀ {l : List α} {k : Nat}, 0 ≤ fidx p l k ↔ l.any p = true
  | [], k => by simp [fidx]
  | x :: r, k => by
    have ih := fidx_nonneg (p := p) (l := r) (k := k + 1)
    unfold fidx
    rw [List.any_cons]
    by_cases h : p x = true
    · rw [h]; simp
    · rw [Bool.eq_false_iff.2 h, cond_false, Bool.false_or]; exact ih
theorem fidx_any {α : Type} {p : α → Bool} {l : List α} {k : Nat} : decide (0 ≤ fidx p l k) = l.any p := by
  rw [Bool.eq_iff_iff, decide_eq_true_iff]; exact fidx_nonneg
theorem fidx_range {α : Type} {p : α → Bool} : ∀ {l : List α} {k : Nat}, -1 ≤ fidx p l k ∧ fidx p l k < (k + l.length : Nat)
  | [], k => by simp [fidx]; omega
  | x :: r, k => by
    simp only [fidx, List.length_cons]
    have := fidx_range (p := p) (l := r) (k := k + 1)
    cases p x <;> simp <;> omega
theorem indexI_spec (l : List Int) (D : Int → Prop) (p : Int → Bool) (hl : l.length ≤ 9223372036854775807) (hD : ∀ x ∈ l, D x) : FnSpec Sy.P 184 [.sl false 1 ((l).map .int), fnI Sy.P D p] [.sl false 1 ((l).map .int), fnI Sy.P D p] (.int (fidx p l 0)) := by
  refine FnSpec.enter (S := Sy) 0 Tryz.func184 rfl rfl rfl Tryz.ntmps184 rfl rfl rfl rfl fun v0 => ?_
  (repeat' (first | refine w9x ?_ | (refine w9c ?_ ?_ <;> intro _ <;> try exact w9o) | (refine w9d ?_ ?_ <;> intro _ <;> try exact w9s) | (refine w9q ?_; intro bnil hbnil)))
  refine CW.loop (fun k : Nat => [(0, .av (.sl false 1 ((l).map .int))), (1, .av (fnI Sy.P D p)), (7, .av (.int (l.length))), (8, .av (.int (k)))]) (fun k => k ≤ l.length ∧ fidx p l 0 = fidx p (l.drop k) k) (fun k => l.length - k) (0) ?_ (by exact w9a) ?_
  · exact ⟨Nat.zero_le _, rfl⟩
  intro k ⟨hk, hp⟩
  by_cases hlt : k < l.length
  · have hx : l[k]? = some l[k] := List.getElem?_eq_getElem hlt
    have hd : D l[k] := hD _ (List.getElem_mem hlt)
    rw [fidx_drop hlt] at hp
    cases hb : p l[k] with
    | true =>
      rw [hb, cond_true] at hp
      rw [hp]
      (repeat' (first | refine w9x ?_ | (refine J.callF [.int l[k]] rfl rfl rfl ⟨_, rfl, hd⟩ (by (repeat' (first | exact ArgsOk.nil | apply ArgsOk.cons | exact ArgOk.pl rfl rfl | exact ArgOk.br rfl AV.noConfusion (by first | rfl | exact sh_int | exact sh_rows | exact sh_rowsO | exact sh_box | exact sh_map (fun _ => rfl))))) (by first | assumption | rfl | simp) rfl ?_) | (refine J.callFQ [.int l[k]] rfl rfl rfl ⟨_, rfl, hd⟩ (by (repeat' (first | exact ArgsOk.nil | apply ArgsOk.cons | exact ArgOk.pl rfl rfl | exact ArgOk.br rfl AV.noConfusion (by first | rfl | exact sh_int | exact sh_rows | exact sh_rowsO | exact sh_box | exact sh_map (fun _ => rfl))))) (by first | assumption | rfl | simp) rfl ?_) | (refine w9c ?_ ?_ <;> intro _ <;> try exact w9o) | (refine w9d ?_ ?_ <;> intro _ <;> try exact w9s) | (refine w9q ?_; intro bnil hbnil)))
      all_goals first | (rw [hb] at *; contradiction) | exact .mk rfl rfl rfl
    | false =>
      rw [hb, cond_false] at hp
      (repeat' (first | refine w9x ?_ | (refine J.callF [.int l[k]] rfl rfl rfl ⟨_, rfl, hd⟩ (by (repeat' (first | exact ArgsOk.nil | apply ArgsOk.cons | exact ArgOk.pl rfl rfl | exact ArgOk.br rfl AV.noConfusion (by first | rfl | exact sh_int | exact sh_rows | exact sh_rowsO | exact sh_box | exact sh_map (fun _ => rfl))))) (by first | assumption | rfl | simp) rfl ?_) | (refine J.callFQ [.int l[k]] rfl rfl rfl ⟨_, rfl, hd⟩ (by (repeat' (first | exact ArgsOk.nil | apply ArgsOk.cons | exact ArgOk.pl rfl rfl | exact ArgOk.br rfl AV.noConfusion (by first | rfl | exact sh_int | exact sh_rows | exact sh_rowsO | exact sh_box | exact sh_map (fun _ => rfl))))) (by first | assumption | rfl | simp) rfl ?_) | (refine w9c ?_ ?_ <;> intro _ <;> try exact w9o) | (refine w9d ?_ ?_ <;> intro _ <;> try exact w9s) | (refine w9q ?_; intro bnil hbnil)))
      all_goals first | (rw [hb] at *; contradiction) | skip
      refine ⟨k+1, ?_, by first | omega | (simp only; omega), by exact w9a⟩
      exact ⟨by omega, hp⟩
  · obtain rfl : k = l.length := by omega
    rw [fidx_end] at hp
    rw [hp]
    (repeat' (first | refine w9x ?_ | (refine w9c ?_ ?_ <;> intro _ <;> try exact w9o) | (refine w9d ?_ ?_ <;> intro _ <;> try exact w9s) | (refine w9q ?_; intro bnil hbnil)))
    exact .mk rfl rfl rfl
theorem containsI_spec (l : List Int) (D : Int → Prop) (p : Int → Bool) (hl : l.length ≤ 9223372036854775807) (hD : ∀ x ∈ l, D x) : FnSpec Sy.P 135 [.sl false 1 ((l).map .int), fnI Sy.P D p] [.sl false 1 ((l).map .int), fnI Sy.P D p] (.bool (l.any p)) := by
  refine FnSpec.enter (S := Sy) 0 Tryz.func135 rfl rfl rfl Tryz.ntmps135 rfl rfl rfl rfl fun v0 => ?_
  have h := indexI_spec l D p hl hD
  (repeat' (first | refine w9x ?_ | refine w9p (h) ?_ | (refine w9c ?_ ?_ <;> intro _ <;> try exact w9o) | (refine w9d ?_ ?_ <;> intro _ <;> try exact w9s) | (refine w9q ?_; intro bnil hbnil)))
  exact .mk rfl (congrArg AV.bool fidx_any.symm) rfl
/-- The rows of integers that a word tells. -/
def ints : AV → List Int
  | .sl _ _ xs => xs.map fun | .int n => n | _ => 0
  | _ => []
end Go.Proofs.YtkkcnppgcnmikaaGreatDoor

/- The library's copies and searches of rows. -/
namespace Go.Proofs.YtkkcnppgcnmikaaGreatDoor
open Go FM
set_option maxRecDepth 10000
set_option maxHeartbeats 1600000
set_option linter.all false
theorem clone_spec (l : List Int) (hl : l.length ≤ 17592186044416) : FnSpec Sy.P 23 [.sl false 1 ((l).map .int)] [.sl false 1 ((l).map .int)] (.sl true 1 ((l).map .int)) := by
  refine FnSpec.enter (S := Sy) 0 Tryz.func23 rfl rfl rfl Tryz.ntmps23 rfl rfl rfl rfl fun v0 => ?_
  (repeat' (first | refine w9x ?_ | (refine w9c ?_ ?_ <;> intro _ <;> try exact w9o) | (refine w9d ?_ ?_ <;> intro _ <;> try exact w9s) | (refine w9q ?_; intro bnil hbnil)))
  · by_cases h : l = []
    · subst h
      exact .mkL rfl .nil rfl
    · have := hbnil (by simpa using h)
      simp_all
  · exact .mk rfl rfl rfl
theorem indexInt_spec (l : List Int) (v : Int) (hl : l.length ≤ 9223372036854775807) : FnSpec Sy.P 105 [.sl false 1 ((l).map .int), .int v] [.sl false 1 ((l).map .int), .int v] (.int (fidx (fun x => decide (v = x)) l 0)) := by
  refine FnSpec.enter (S := Sy) 0 Tryz.func105 rfl rfl rfl Tryz.ntmps105 rfl rfl rfl rfl fun v0 => ?_
  (repeat' (first | refine w9x ?_ | (refine w9c ?_ ?_ <;> intro _ <;> try exact w9o) | (refine w9d ?_ ?_ <;> intro _ <;> try exact w9s) | (refine w9q ?_; intro bnil hbnil)))
  refine CW.loop (fun k : Nat => [(0, .av (.sl false 1 ((l).map .int))), (1, .av (.int (v))), (7, .av (.int (l.length))), (8, .av (.int (k)))]) (fun k => k ≤ l.length ∧ fidx (fun x => decide (v = x)) l 0 = fidx (fun x => decide (v = x)) (l.drop k) k) (fun k => l.length - k) (0) ?_ (by exact w9a) ?_
  · exact ⟨Nat.zero_le _, rfl⟩
  intro k ⟨hk, hp⟩
  by_cases hlt : k < l.length
  · have hx : l[k]? = some l[k] := List.getElem?_eq_getElem hlt
    rw [fidx_drop hlt] at hp
    by_cases hb : v = l[k]
    · rw [decide_eq_true hb, cond_true] at hp
      rw [hp]
      (repeat' (first | refine w9x ?_ | (refine w9c ?_ ?_ <;> intro _ <;> try exact w9o) | (refine w9d ?_ ?_ <;> intro _ <;> try exact w9s) | (refine w9q ?_; intro bnil hbnil)))
      exact .mk rfl rfl rfl
    · rw [decide_eq_false hb, cond_false] at hp
      (repeat' (first | refine w9x ?_ | (refine w9c ?_ ?_ <;> intro _ <;> try exact w9o) | (refine w9d ?_ ?_ <;> intro _ <;> try exact w9s) | (refine w9q ?_; intro bnil hbnil)))
      refine ⟨k+1, ?_, by first | omega | (simp only; omega), by exact w9a⟩
      exact ⟨by omega, hp⟩
  · obtain rfl : k = l.length := by omega
    rw [fidx_end] at hp
    rw [hp]
    (repeat' (first | refine w9x ?_ | (refine w9c ?_ ?_ <;> intro _ <;> try exact w9o) | (refine w9d ?_ ?_ <;> intro _ <;> try exact w9s) | (refine w9q ?_; intro bnil hbnil)))
    exact .mk rfl rfl rfl
end Go.Proofs.YtkkcnppgcnmikaaGreatDoor
