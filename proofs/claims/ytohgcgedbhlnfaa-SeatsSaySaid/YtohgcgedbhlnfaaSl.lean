/- The library's searches and comparisons of rows. -/
import Derived.Test.YtohgcgedbhlnfaaEq
namespace Go.Proofs.Ytohgcgedbhlnfaa
open Go FM
set_option maxRecDepth 10000
set_option linter.all false
/-- Where the first is of which a test holds. -/
def fidx {α : Type} (p : α → Bool) : List α → Nat → Int
  | [], _ => -1
  | x :: r, k => bif p x then (k : Int) else fidx p r (k + 1)
theorem fidx_drop {α : Type} {p : α → Bool} {l : List α} {k : Nat} (h : k < l.length) : fidx p (l.drop k) k = bif p l[k] then (k : Int) else fidx p (l.drop (k + 1)) (k + 1) := by
  rw [List.drop_eq_getElem_cons h]; rfl
theorem fidx_end {α : Type} {p : α → Bool} {l : List α} : fidx p (l.drop l.length) l.length = -1 := by rw [List.drop_length]; rfl
theorem fidx_nonneg {α : Type} {p : α → Bool} : ∀ {l : List α} {k : Nat}, 0 ≤ fidx p l k ↔ l.any p = true
  | [], k => by simp [fidx]
  | x :: r, k => by
    have ih := fidx_nonneg (p := p) (l := r) (k := k + 1)
    unfold fidx
    rw [List.any_cons]
    by_cases h : p x = true
    · rw [h]; simp
    · rw [Bool.eq_false_iff.2 h, cond_false, Bool.false_or]; exact ih
theorem fidx_any {α : Type} {p : α → Bool} {l : List α} {k : Nat} : decide (0 ≤ fidx p l k) = l.any p := by
  rw [Bool.eq_iff_iff, decide_eq_true_iff]; exact fidx_nonneg
theorem fidx_range {α : Type} {p : α → Bool} : ∀ {l : List α} {k : Nat}, -1 ≤ fidx p l k ∧ fidx p l k < (k + l.length : Nat)
  | [], k => by simp [fidx]; omega
  | x :: r, k => by
    simp only [fidx, List.length_cons]
    have := fidx_range (p := p) (l := r) (k := k + 1)
    cases p x <;> simp <;> omega
theorem indexI_spec (l : List Int) (D : Int → Prop) (p : Int → Bool) (hl : l.length ≤ 9223372036854775807) (hD : ∀ x ∈ l, D x) : FnSpec Sy.P 48 [.sl false 1 ((l).map .int), fnI Sy.P D p] [.sl false 1 ((l).map .int), fnI Sy.P D p] (.int (fidx p l 0)) := by
  refine FnSpec.enter (S := Sy) 0 Try.func48 rfl rfl rfl Try.ntmps48 rfl rfl rfl rfl fun v0 => ?_
  (repeat' (first | refine w9x ?_ | (refine w9c ?_ ?_ <;> intro _ <;> try exact w9o) | (refine w9d ?_ ?_ <;> intro _ <;> try exact w9s) | (refine w9q ?_; intro bnil hbnil)))
  refine CW.loop (fun k : Nat => [(0, .av (.sl false 1 ((l).map .int))), (1, .av (fnI Sy.P D p)), (7, .av (.int (l.length))), (8, .av (.int (k)))]) (fun k => k ≤ l.length ∧ fidx p l 0 = fidx p (l.drop k) k) (fun k => l.length - k) (0) ?_ (by exact w9a) ?_
  · exact ⟨Nat.zero_le _, rfl⟩
  intro k ⟨hk, hp⟩
  by_cases hlt : k < l.length
  · have hx : l[k]? = some l[k] := List.getElem?_eq_getElem hlt
    have hd : D l[k] := hD _ (List.getElem_mem hlt)
    rw [fidx_drop hlt] at hp
    cases hb : p l[k] with
    | true =>
      rw [hb, cond_true] at hp
      rw [hp]
      (repeat' (first | refine w9x ?_ | (refine J.callF [.int l[k]] rfl rfl rfl ⟨_, rfl, hd⟩ (by (repeat' (first | exact ArgsOk.nil | apply ArgsOk.cons | exact ArgOk.pl rfl rfl | exact ArgOk.br rfl AV.noConfusion (by first | rfl | exact sh_int | exact sh_rows | exact sh_rowsO | exact sh_box | exact sh_map (fun _ => rfl))))) (by first | assumption | rfl | simp) rfl ?_) | (refine J.callFQ [.int l[k]] rfl rfl rfl ⟨_, rfl, hd⟩ (by (repeat' (first | exact ArgsOk.nil | apply ArgsOk.cons | exact ArgOk.pl rfl rfl | exact ArgOk.br rfl AV.noConfusion (by first | rfl | exact sh_int | exact sh_rows | exact sh_rowsO | exact sh_box | exact sh_map (fun _ => rfl))))) (by first | assumption | rfl | simp) rfl ?_) | (refine w9c ?_ ?_ <;> intro _ <;> try exact w9o) | (refine w9d ?_ ?_ <;> intro _ <;> try exact w9s) | (refine w9q ?_; intro bnil hbnil)))
      all_goals first | (rw [hb] at *; contradiction) | exact .mk rfl rfl rfl
    | false =>
      rw [hb, cond_false] at hp
      (repeat' (first | refine w9x ?_ | (refine J.callF [.int l[k]] rfl rfl rfl ⟨_, rfl, hd⟩ (by (repeat' (first | exact ArgsOk.nil | apply ArgsOk.cons | exact ArgOk.pl rfl rfl | exact ArgOk.br rfl AV.noConfusion (by first | rfl | exact sh_int | exact sh_rows | exact sh_rowsO | exact sh_box | exact sh_map (fun _ => rfl))))) (by first | assumption | rfl | simp) rfl ?_) | (refine J.callFQ [.int l[k]] rfl rfl rfl ⟨_, rfl, hd⟩ (by (repeat' (first | exact ArgsOk.nil | apply ArgsOk.cons | exact ArgOk.pl rfl rfl | exact ArgOk.br rfl AV.noConfusion (by first | rfl | exact sh_int | exact sh_rows | exact sh_rowsO | exact sh_box | exact sh_map (fun _ => rfl))))) (by first | assumption | rfl | simp) rfl ?_) | (refine w9c ?_ ?_ <;> intro _ <;> try exact w9o) | (refine w9d ?_ ?_ <;> intro _ <;> try exact w9s) | (refine w9q ?_; intro bnil hbnil)))
      all_goals first | (rw [hb] at *; contradiction) | skip
      refine ⟨k+1, ?_, by first | omega | (simp only; omega), by exact w9a⟩
      exact ⟨by omega, hp⟩
  · obtain rfl : k = l.length := by omega
    rw [fidx_end] at hp
    rw [hp]
    (repeat' (first | refine w9x ?_ | (refine w9c ?_ ?_ <;> intro _ <;> try exact w9o) | (refine w9d ?_ ?_ <;> intro _ <;> try exact w9s) | (refine w9q ?_; intro bnil hbnil)))
    exact .mk rfl rfl rfl
theorem containsI_spec (l : List Int) (D : Int → Prop) (p : Int → Bool) (hl : l.length ≤ 9223372036854775807) (hD : ∀ x ∈ l, D x) : FnSpec Sy.P 59 [.sl false 1 ((l).map .int), fnI Sy.P D p] [.sl false 1 ((l).map .int), fnI Sy.P D p] (.bool (l.any p)) := by
  refine FnSpec.enter (S := Sy) 0 Try.func59 rfl rfl rfl Try.ntmps59 rfl rfl rfl rfl fun v0 => ?_
  have h := indexI_spec l D p hl hD
  (repeat' (first | refine w9x ?_ | refine w9p (h) ?_ | (refine w9c ?_ ?_ <;> intro _ <;> try exact w9o) | (refine w9d ?_ ?_ <;> intro _ <;> try exact w9s) | (refine w9q ?_; intro bnil hbnil)))
  exact .mk rfl (congrArg AV.bool fidx_any.symm) rfl
/-- The rows of integers that a word tells. -/
def ints : AV → List Int
  | .sl _ _ xs => xs.map fun | .int n => n | _ => 0
  | _ => []
theorem ints_sl {o : Bool} {c : Nat} {l : List Int} : ints (.sl o c (l.map .int)) = l := by
  simp only [ints, List.map_map]
  exact (List.map_congr_left fun x _ => rfl).trans (List.map_id l)
noncomputable def eqRows : AV := .fn (BehA Sy.P (fun ws => ∃ a b : List Int, ws = [rwS a, rwS b] ∧ a.length ≤ 9223372036854775807) (fun ws => match ws with | [x, y] => .bool (decide (ints x = ints y)) | _ => .bool false))
theorem eqRows_arg {m : Nat} {v : Nat → Value} {N : Nat} {σ : St} : ArgOk (Sy.fixed m v) N σ (.func 24) true eqRows :=
  .func rfl (equal_spec [] [] (by simp)).ok (fun ws hd => by obtain ⟨a, b, rfl, h⟩ := hd; simp only [ints_sl]; exact equal_spec a b h) (fun ws hd => by obtain ⟨a, b, rfl, h⟩ := hd; rfl)
theorem equalRows_spec (A B : List (List Int)) (hA : A.length ≤ 9223372036854775807) (hr : ∀ r ∈ A, r.length ≤ 9223372036854775807) : FnSpec Sy.P 50 [.sl false 1 ((A).map rwS), .sl false 1 ((B).map rwS), eqRows] [.sl false 1 ((A).map rwS), .sl false 1 ((B).map rwS), eqRows] (.bool (decide (A = B))) := by
  refine FnSpec.enter (S := Sy) 0 Try.func50 rfl rfl rfl Try.ntmps50 rfl rfl rfl rfl fun v0 => ?_
  by_cases hlen : A.length = B.length
  · (repeat' (first | refine w9x ?_ | (refine w9c ?_ ?_ <;> intro _ <;> try exact w9o) | (refine w9d ?_ ?_ <;> intro _ <;> try exact w9s) | (refine w9q ?_; intro bnil hbnil)))
    refine CW.loop (fun k : Nat => [(1, .av (.sl false 1 ((B).map rwS))), (2, .av eqRows), (15, .av (.sl false 1 ((A).map rwS))), (16, .av (.int (A.length))), (17, .av (.int (k)))]) (fun k => k ≤ A.length ∧ A.take k = B.take k) (fun k => A.length - k) (0) ?_ (by exact w9a) ?_
    · exact ⟨Nat.zero_le _, rfl⟩
    intro k ⟨hk, hp⟩
    by_cases hlt : k < A.length
    · have hx : A[k]? = some A[k] := List.getElem?_eq_getElem hlt
      have hy : B[k]? = some (B[k]'(by omega)) := List.getElem?_eq_getElem (by omega)
      have hd := hr _ (List.getElem_mem hlt)
      have hres : ∀ a b : List Int, (AV.bool (decide (ints (rwS a) = ints (rwS b)))) = .bool (decide (a = b)) := fun a b => by simp only [ints_sl]
      have hres2 := hres A[k] (B[k]'(by omega))
      by_cases he : A[k] = B[k]'(by omega)
      · rw [decide_eq_true he] at hres2
        (repeat' (first | refine w9x ?_ | (refine J.callF [rwS A[k], rwS (B[k]'(by omega))] rfl rfl rfl ⟨_, _, rfl, hd⟩ (by (repeat' (first | exact ArgsOk.nil | apply ArgsOk.cons | exact ArgOk.pl rfl rfl | exact ArgOk.br rfl AV.noConfusion (by first | rfl | exact sh_int | exact sh_rows | exact sh_rowsO | exact sh_box | exact sh_map (fun _ => rfl))))) (by first | assumption | rfl | simp) rfl ?_) | (refine J.callFQ [rwS A[k], rwS (B[k]'(by omega))] rfl rfl rfl ⟨_, _, rfl, hd⟩ (by (repeat' (first | exact ArgsOk.nil | apply ArgsOk.cons | exact ArgOk.pl rfl rfl | exact ArgOk.br rfl AV.noConfusion (by first | rfl | exact sh_int | exact sh_rows | exact sh_rowsO | exact sh_box | exact sh_map (fun _ => rfl))))) (by first | assumption | rfl | simp) rfl ?_) | (refine w9c ?_ ?_ <;> intro _ <;> try exact w9o) | (refine w9d ?_ ?_ <;> intro _ <;> try exact w9s) | (refine w9q ?_; intro bnil hbnil)))
        refine ⟨k+1, ?_, by first | omega | (simp only; omega), by exact w9a⟩
        refine ⟨by omega, ?_⟩
        rw [List.take_succ_eq_append_getElem hlt, List.take_succ_eq_append_getElem (by omega : k < B.length), hp, he]
      · rw [decide_eq_false he] at hres2
        (repeat' (first | refine w9x ?_ | (refine J.callF [rwS A[k], rwS (B[k]'(by omega))] rfl rfl rfl ⟨_, _, rfl, hd⟩ (by (repeat' (first | exact ArgsOk.nil | apply ArgsOk.cons | exact ArgOk.pl rfl rfl | exact ArgOk.br rfl AV.noConfusion (by first | rfl | exact sh_int | exact sh_rows | exact sh_rowsO | exact sh_box | exact sh_map (fun _ => rfl))))) (by first | assumption | rfl | simp) rfl ?_) | (refine J.callFQ [rwS A[k], rwS (B[k]'(by omega))] rfl rfl rfl ⟨_, _, rfl, hd⟩ (by (repeat' (first | exact ArgsOk.nil | apply ArgsOk.cons | exact ArgOk.pl rfl rfl | exact ArgOk.br rfl AV.noConfusion (by first | rfl | exact sh_int | exact sh_rows | exact sh_rowsO | exact sh_box | exact sh_map (fun _ => rfl))))) (by first | assumption | rfl | simp) rfl ?_) | (refine w9c ?_ ?_ <;> intro _ <;> try exact w9o) | (refine w9d ?_ ?_ <;> intro _ <;> try exact w9s) | (refine w9q ?_; intro bnil hbnil)))
        have : decide (A = B) = false := decide_eq_false fun h => by subst h; exact he rfl
        rw [this]
        exact .mk rfl rfl rfl
    · (repeat' (first | refine w9x ?_ | (refine w9c ?_ ?_ <;> intro _ <;> try exact w9o) | (refine w9d ?_ ?_ <;> intro _ <;> try exact w9s) | (refine w9q ?_; intro bnil hbnil)))
      obtain rfl : A = B := by rw [List.take_of_length_le (by omega), List.take_of_length_le (by omega)] at hp; exact hp
      simp only [decide_true]
      exact .mk rfl rfl rfl
  · (repeat' (first | refine w9x ?_ | (refine w9c ?_ ?_ <;> intro _ <;> try exact w9o) | (refine w9d ?_ ?_ <;> intro _ <;> try exact w9s) | (refine w9q ?_; intro bnil hbnil)))
    have : decide (A = B) = false := decide_eq_false fun h => hlen (by rw [h])
    rw [this]
    exact .mk rfl rfl rfl
theorem rows_spec (A B : List (List Int)) (hA : A.length ≤ 9223372036854775807) (hr : ∀ r ∈ A, r.length ≤ 9223372036854775807) : FnSpec Sy.P 16 [.sl false 1 ((A).map rwS), .sl false 1 ((B).map rwS)] [.sl false 1 ((A).map rwS), .sl false 1 ((B).map rwS)] (.bool (decide (A = B))) := by
  refine FnSpec.enter (S := Sy) 0 Try.func16 rfl rfl rfl Try.ntmps16 rfl rfl rfl rfl fun v0 => ?_
  have h := equalRows_spec A B hA hr
  (repeat' (first | refine w9x ?_ | ((with_reducible first | apply J.callP (h) | apply J.callPQ (h)); rfl; rfl; (repeat' (first | exact ArgsOk.nil | exact eqRows_arg | apply ArgsOk.cons | exact ArgOk.pl rfl rfl | exact ArgOk.br rfl AV.noConfusion (by first | rfl | exact sh_int | exact sh_rows | exact sh_rowsO | exact sh_box | exact sh_map (fun _ => rfl)))); (first | rfl | exact gn0 | exact gnI)) | (refine w9c ?_ ?_ <;> intro _ <;> try exact w9o) | (refine w9d ?_ ?_ <;> intro _ <;> try exact w9s) | (refine w9q ?_; intro bnil hbnil)))
  exact .mk rfl rfl rfl
end Go.Proofs.Ytohgcgedbhlnfaa
