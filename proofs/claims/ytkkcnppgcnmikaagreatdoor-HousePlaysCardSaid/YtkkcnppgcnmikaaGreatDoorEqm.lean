/- The library's comparison of two rows of integers. -/
import Derived.Test.YtkkcnppgcnmikaaGreatDoorTam
import Derived.Test.YtkkcnppgcnmikaaGreatDoorFrm
import Derived.Test.YtkkcnppgcnmikaaGreatDoorFlm
namespace Go.Proofs.YtkkcnppgcnmikaaGreatDoor
open Go FM
set_option maxRecDepth 10000
set_option linter.all false
theorem eq_take_succ {a b : List Int} (h : a.length = b.length) {k : Nat} (hk : k < a.length) (hp : a.take k = b.take k) (hx : a[k] = b[k]'(by omega)) : a.take (k+1) = b.take (k+1) := by
  rw [List.take_succ_eq_append_getElem hk, List.take_succ_eq_append_getElem (by omega : k < b.length), hp, hx]
theorem ne_at {a b : List Int} {k : Nat} (hk : k < a.length) (hk' : k < b.length) (hx : a[k] ≠ b[k]) : decide (a = b) = false :=
  decide_eq_false fun h => by subst h; exact hx rfl
theorem equal_spec (a b : List Int) (hb : a.length ≤ 9223372036854775807) : FnSpec Sy.P 25 [.sl false 1 (a.map .int), .sl false 1 (b.map .int)] [.sl false 1 (a.map .int), .sl false 1 (b.map .int)] (.bool (decide (a = b))) := by
  refine FnSpec.enter (S := Sy) 0 Tryz.func25 rfl rfl rfl Tryz.ntmps25 rfl rfl rfl rfl fun v0 => ?_
  by_cases hlen : a.length = b.length
  · (repeat' (first | refine w9x ?_ | (refine w9c ?_ ?_ <;> intro _ <;> try exact w9o) | (refine w9d ?_ ?_ <;> intro _ <;> try exact w9s) | (refine w9q ?_; intro bnil hbnil)))
    refine CW.loop (fun k : Nat => [(0, .av (.sl false 1 (a.map .int))), (1, .av (.sl false 1 (b.map .int))), (12, .av (.int a.length)), (13, .av (.int k))]) (fun k => k ≤ a.length ∧ a.take k = b.take k) (fun k => a.length - k) 0 ⟨Nat.zero_le _, rfl⟩ ⟨rfl, rfl, rfl, rfl, trivial⟩ fun k ⟨hk, hp⟩ => ?_
    by_cases hlt : k < a.length
    · have hx : a[k]? = some a[k] := List.getElem?_eq_getElem hlt
      have hy : b[k]? = some (b[k]'(by omega)) := List.getElem?_eq_getElem (by omega)
      by_cases he : a[k] = b[k]'(by omega)
      · (repeat' (first | refine w9x ?_ | (refine w9c ?_ ?_ <;> intro _ <;> try exact w9o) | (refine w9d ?_ ?_ <;> intro _ <;> try exact w9s) | (refine w9q ?_; intro bnil hbnil)))
        exact ⟨k + 1, ⟨by omega, eq_take_succ hlen hlt hp he⟩, by omega, rfl, rfl, rfl, rfl, trivial⟩
      · (repeat' (first | refine w9x ?_ | (refine w9c ?_ ?_ <;> intro _ <;> try exact w9o) | (refine w9d ?_ ?_ <;> intro _ <;> try exact w9s) | (refine w9q ?_; intro bnil hbnil)))
        rw [ne_at hlt (by omega) he]
        exact .mk rfl rfl rfl
    · (repeat' (first | refine w9x ?_ | (refine w9c ?_ ?_ <;> intro _ <;> try exact w9o) | (refine w9d ?_ ?_ <;> intro _ <;> try exact w9s) | (refine w9q ?_; intro bnil hbnil)))
      obtain rfl : a = b := by rw [List.take_of_length_le (by omega), List.take_of_length_le (by omega)] at hp; exact hp
      simp only [decide_true]
      exact .mk rfl rfl rfl
  · (repeat' (first | refine w9x ?_ | (refine w9c ?_ ?_ <;> intro _ <;> try exact w9o) | (refine w9d ?_ ?_ <;> intro _ <;> try exact w9s) | (refine w9q ?_; intro bnil hbnil)))
    have : decide (a = b) = false := decide_eq_false fun h => hlen (by rw [h])
    rw [this]
    exact .mk rfl rfl rfl
end Go.Proofs.YtkkcnppgcnmikaaGreatDoor

/- The library's searches and comparisons of rows. -/
namespace Go.Proofs.YtkkcnppgcnmikaaGreatDoor
open Go FM
set_option maxRecDepth 10000
set_option linter.all false
/-- Where the first is of which a test holds. -/
def fidx {α : Type} (p : α → Bool) : List α → Nat → Int
  | [], _ => -1
  | x :: r, k => bif p x then (k : Int) else fidx p r (k + 1)
theorem fidx_drop {α : Type} {p : α → Bool} {l : List α} {k : Nat} (h : k < l.length) : fidx p (l.drop k) k = bif p l[k] then (k : Int) else fidx p (l.drop (k + 1)) (k + 1) := by
  rw [List.drop_eq_getElem_cons h]; rfl
theorem fidx_end {α : Type} {p : α → Bool} {l : List α} : fidx p (l.drop l.length) l.length = -1 := by rw [List.drop_length]; rfl
theorem fidx_nonneg {α : Type} {p : α → Bool} : ∀ {l : List α} {k : Nat}, 0 ≤ fidx p l k ↔ l.any p = true
  | [], k => by simp [fidx]
  | x :: r, k => by
    have ih := fidx_nonneg (p := p) (l := r) (k := k + 1)
    unfold fidx
    rw [List.any_cons]
    by_cases h : p x = true
    · rw [h]; simp
    · rw [Bool.eq_false_iff.2 h, cond_false, Bool.false_or]; exact ih
theorem fidx_any {α : Type} {p : α → Bool} {l : List α} {k : Nat} : decide (0 ≤ fidx p l k) = l.any p := by
  rw [Bool.eq_iff_iff, decide_eq_true_iff]; exact fidx_nonneg
theorem fidx_range {α : Type} {p : α → Bool} : ∀ {l : List α} {k : Nat}, -1 ≤ fidx p l k ∧ fidx p l k < (k + l.length : Nat)
  | [], k => by simp [fidx]; omega
  | x :: r, k => by
    simp only [fidx, List.length_cons]
    have := fidx_range (p := p) (l := r) (k := k + 1)
    cases p x <;> simp <;> omega
theorem indexI_spec (l : List Int) (D : Int → Prop) (p : Int → Bool) (hl : l.length ≤ 9223372036854775807) (hD : ∀ x ∈ l, D x) : FnSpec Sy.P 184 [.sl false 1 ((l).map .int), fnI Sy.P D p] [.sl false 1 ((l).map .int), fnI Sy.P D p] (.int (fidx p l 0)) := by
  refine FnSpec.enter (S := Sy) 0 Tryz.func184 rfl rfl rfl Tryz.ntmps184 rfl rfl rfl rfl fun v0 => ?_
  (repeat' (first | refine w9x ?_ | (refine w9c ?_ ?_ <;> intro _ <;> try exact w9o) | (refine w9d ?_ ?_ <;> intro _ <;> try exact w9s) | (refine w9q ?_; intro bnil hbnil)))
  refine CW.loop (fun k : Nat => [(0, .av (.sl false 1 ((l).map .int))), (1, .av (fnI Sy.P D p)), (7, .av (.int (l.length))), (8, .av (.int (k)))]) (fun k => k ≤ l.length ∧ fidx p l 0 = fidx p (l.drop k) k) (fun k => l.length - k) (0) ?_ (by exact w9a) ?_
  · exact ⟨Nat.zero_le _, rfl⟩
  intro k ⟨hk, hp⟩
  by_cases hlt : k < l.length
  · have hx : l[k]? = some l[k] := List.getElem?_eq_getElem hlt
    have hd : D l[k] := hD _ (List.getElem_mem hlt)
    rw [fidx_drop hlt] at hp
    cases hb : p l[k] with
    | true =>
      rw [hb, cond_true] at hp
      rw [hp]
      (repeat' (first | refine w9x ?_ | (refine J.callF [.int l[k]] rfl rfl rfl ⟨_, rfl, hd⟩ (by (repeat' (first | exact ArgsOk.nil | apply ArgsOk.cons | exact ArgOk.pl rfl rfl | exact ArgOk.br rfl AV.noConfusion (by first | rfl | exact sh_int | exact sh_rows | exact sh_rowsO | exact sh_box | exact sh_map (fun _ => rfl))))) (by first | assumption | rfl | simp) rfl ?_) | (refine J.callFQ [.int l[k]] rfl rfl rfl ⟨_, rfl, hd⟩ (by (repeat' (first | exact ArgsOk.nil | apply ArgsOk.cons | exact ArgOk.pl rfl rfl | exact ArgOk.br rfl AV.noConfusion (by first | rfl | exact sh_int | exact sh_rows | exact sh_rowsO | exact sh_box | exact sh_map (fun _ => rfl))))) (by first | assumption | rfl | simp) rfl ?_) | (refine w9c ?_ ?_ <;> intro _ <;> try exact w9o) | (refine w9d ?_ ?_ <;> intro _ <;> try exact w9s) | (refine w9q ?_; intro bnil hbnil)))
      all_goals first | (rw [hb] at *; contradiction) | exact .mk rfl rfl rfl
    | false =>
      rw [hb, cond_false] at hp
      (repeat' (first | refine w9x ?_ | (refine J.callF [.int l[k]] rfl rfl rfl ⟨_, rfl, hd⟩ (by (repeat' (first | exact ArgsOk.nil | apply ArgsOk.cons | exact ArgOk.pl rfl rfl | exact ArgOk.br rfl AV.noConfusion (by first | rfl | exact sh_int | exact sh_rows | exact sh_rowsO | exact sh_box | exact sh_map (fun _ => rfl))))) (by first | assumption | rfl | simp) rfl ?_) | (refine J.callFQ [.int l[k]] rfl rfl rfl ⟨_, rfl, hd⟩ (by (repeat' (first | exact ArgsOk.nil | apply ArgsOk.cons | exact ArgOk.pl rfl rfl | exact ArgOk.br rfl AV.noConfusion (by first | rfl | exact sh_int | exact sh_rows | exact sh_rowsO | exact sh_box | exact sh_map (fun _ => rfl))))) (by first | assumption | rfl | simp) rfl ?_) | (refine w9c ?_ ?_ <;> intro _ <;> try exact w9o) | (refine w9d ?_ ?_ <;> intro _ <;> try exact w9s) | (refine w9q ?_; intro bnil hbnil)))
      all_goals first | (rw [hb] at *; contradiction) | skip
      refine ⟨k+1, ?_, by first | omega | (simp only; omega), by exact w9a⟩
      exact ⟨by omega, hp⟩
  · obtain rfl : k = l.length := by omega
    rw [fidx_end] at hp
    rw [hp]
    (repeat' (first | refine w9x ?_ | (refine w9c ?_ ?_ <;> intro _ <;> try exact w9o) | (refine w9d ?_ ?_ <;> intro _ <;> try exact w9s) | (refine w9q ?_; intro bnil hbnil)))
    exact .mk rfl rfl rfl
theorem containsI_spec (l : List Int) (D : Int → Prop) (p : Int → Bool) (hl : l.length ≤ 9223372036854775807) (hD : ∀ x ∈ l, D x) : FnSpec Sy.P 135 [.sl false 1 ((l).map .int), fnI Sy.P D p] [.sl false 1 ((l).map .int), fnI Sy.P D p] (.bool (l.any p)) := by
  refine FnSpec.enter (S := Sy) 0 Tryz.func135 rfl rfl rfl Tryz.ntmps135 rfl rfl rfl rfl fun v0 => ?_
  have h := indexI_spec l D p hl hD
  (repeat' (first | refine w9x ?_ | refine w9p (h) ?_ | (refine w9c ?_ ?_ <;> intro _ <;> try exact w9o) | (refine w9d ?_ ?_ <;> intro _ <;> try exact w9s) | (refine w9q ?_; intro bnil hbnil)))
  exact .mk rfl (congrArg AV.bool fidx_any.symm) rfl
/-- The rows of integers that a word tells. -/
def ints : AV → List Int
  | .sl _ _ xs => xs.map fun | .int n => n | _ => 0
  | _ => []
theorem ints_sl {o : Bool} {c : Nat} {l : List Int} : ints (.sl o c (l.map .int)) = l := by
  simp only [ints, List.map_map]
  exact (List.map_congr_left fun x _ => rfl).trans (List.map_id l)
noncomputable def eqRows : AV := .fn (BehA Sy.P (fun ws => ∃ a b : List Int, ws = [rwS a, rwS b] ∧ a.length ≤ 9223372036854775807) (fun ws => match ws with | [x, y] => .bool (decide (ints x = ints y)) | _ => .bool false))
theorem eqRows_arg {m : Nat} {v : Nat → Value} {N : Nat} {σ : St} : ArgOk (Sy.fixed m v) N σ (.func 25) true eqRows :=
  .func rfl (equal_spec [] [] (by simp)).ok (fun ws hd => by obtain ⟨a, b, rfl, h⟩ := hd; simp only [ints_sl]; exact equal_spec a b h) (fun ws hd => by obtain ⟨a, b, rfl, h⟩ := hd; rfl)
end Go.Proofs.YtkkcnppgcnmikaaGreatDoor

/- Lengths of what comes in. -/
namespace Go.Proofs.YtkkcnppgcnmikaaGreatDoor
open Go FM
set_option linter.all false
theorem lenI {l : List Int} (h : Lens Tryz.prog (.sl .int) 63 l) : l.length ≤ 17592186044416 := by
  have := (h 3 Tryz.underlying63).1
  rw [show Tryz.prog.bytesOf 3 = 8 by kernel_rfl] at this
  have e : reachBytes = 140737488351232 := by decide
  omega
theorem lenII {l : List (List Int)} (h : Lens Tryz.prog (.sl (.sl .int)) 258 l) : ∀ r ∈ l, r.length ≤ 17592186044416 := fun r hr => lenI ((h 63 Tryz.underlying258).2 r hr)
end Go.Proofs.YtkkcnppgcnmikaaGreatDoor
