/- Accounts and deals: what is right, by the program and by the reference. -/
import Derived.Test.YtkkcnppgcnmikaaGreatDoorHanm
namespace Go.Proofs.YtkkcnppgcnmikaaGreatDoor
open Go FM Go.Proofs
set_option maxRecDepth 10000
set_option maxHeartbeats 3200000
set_option linter.all false
abbrev Ac := Str × Int × Int × Unit
abbrev acA (a : Ac) : AV := .agg [.str a.1, .int a.2.1, .int a.2.2.1]
abbrev Dl := Str × Str × Int × Int × Int × Int × Unit
abbrev dlA (d : Dl) : AV := .agg [.str d.1, .str d.2.1, .int d.2.2.1, .int d.2.2.2.1, .int d.2.2.2.2.1, .int d.2.2.2.2.2.1]
def wiB (x : Int) : Bool := decide (0 ≤ x ∧ x ≤ 1000000)
def noW (x : Int) : Bool := decide (x < 0 ∨ 1000000 < x)
theorem noW_wiB (x : Int) : noW x = !(wiB x) := by
  unfold noW wiB
  rw [Bool.eq_iff_iff]
  simp only [decide_eq_true_eq, Bool.not_eq_true', decide_eq_false_iff_not]
  omega
theorem within1_spec (x : Int) : FnSpec Sy.P 136 [.int x] [.int x] (.bool (noW x)) := by
  unfold noW
  refine FnSpec.enter (S := Sy) 0 Tryz.func136 rfl rfl rfl Tryz.ntmps136 rfl rfl rfl rfl fun v0 => ?_
  by_cases c : x < 0 ∨ 1000000 < x
  · rw [decide_eq_true c]
    (repeat' (first | refine w9x ?_ | (refine w9c ?_ ?_ <;> intro _ <;> try exact w9o) | (refine w9d ?_ ?_ <;> intro _ <;> try exact w9s) | (refine w9q ?_; intro bnil hbnil)))
    all_goals first | exact .mk rfl rfl rfl | exact .mk rfl (congrArg AV.bool (by simp; omega)) rfl
  · rw [decide_eq_false c]
    (repeat' (first | refine w9x ?_ | (refine w9c ?_ ?_ <;> intro _ <;> try exact w9o) | (refine w9d ?_ ?_ <;> intro _ <;> try exact w9s) | (refine w9q ?_; intro bnil hbnil)))
    all_goals first | exact .mk rfl rfl rfl | exact .mk rfl (congrArg AV.bool (by simp; omega)) rfl
theorem within1_arg {m : Nat} {v : Nat → Value} {N : Nat} {σ : St} : ArgOk (Sy.fixed m v) N σ (.func 136) true (fnI Sy.P (fun _ => True) noW) :=
  .funI (within1_spec 0).ok fun x _ => within1_spec x
theorem any_noW (l : List Int) : (!(l.any noW)) = l.all wiB := by
  rw [List.not_any_eq_all_not]
  exact congrArg l.all (funext fun x => by rw [noW_wiB, Bool.not_not])
theorem within_spec (l : List Int) (hl : l.length ≤ 9223372036854775807) : FnSpec Sy.P 79 [.sl false 1 ((l).map .int)] [.sl false 1 ((l).map .int)] (.bool (l.all wiB)) := by
  have hA := containsI_spec l (fun _ => True) noW hl (fun _ _ => trivial)
  rw [← any_noW]
  refine FnSpec.enter (S := Sy) 0 Tryz.func79 rfl rfl rfl Tryz.ntmps79 rfl rfl rfl rfl fun v0 => ?_
  (repeat' (first | refine w9x ?_ | ((with_reducible first | apply J.callP (hA) | apply J.callPQ (hA)); rfl; rfl; (repeat' (first | exact ArgsOk.nil | exact within1_arg | apply ArgsOk.cons | exact ArgOk.pl rfl rfl | exact ArgOk.br rfl AV.noConfusion (by first | rfl | exact sh_int | exact sh_rows | exact sh_rowsO | exact sh_box | exact sh_map (fun _ => rfl)))); (first | rfl | exact gn0 | exact gnI)) | (refine w9c ?_ ?_ <;> intro _ <;> try exact w9o) | (refine w9d ?_ ?_ <;> intro _ <;> try exact w9s) | (refine w9q ?_; intro bnil hbnil)))
  exact .mk rfl rfl rfl
/-! ### deals -/
def dlE (d : Dl) : Int := if nmB d.1 = false ∨ nmB d.2.1 = false ∨ d.1 = d.2.1 then 3 else if (wiB d.2.2.1 && (wiB d.2.2.2.1 && (wiB d.2.2.2.2.1 && true))) = false ∨ d.2.2.2.2.2.1 < 1 ∨ 100 < d.2.2.2.2.2.1 then 1 else 0
theorem wiB_iff {x : Int} : wiB x = true ↔ 0 ≤ x ∧ x ≤ 1000000 := by unfold wiB; rw [decide_eq_true_eq]
theorem wiB_no {x : Int} : wiB x = false ↔ x < 0 ∨ 1000000 < x := by unfold wiB; rw [decide_eq_false_iff_not]; omega
theorem right_spec (d : Dl) (h1 : d.1.length ≤ 9223372036854775807) (h2 : d.2.1.length ≤ 9223372036854775807) : FnSpec Sy.P 67 [dlA d] [dlA d] (.int (dlE d)) := by
  have hN1 := named_spec d.1 h1
  have hN2 := named_spec d.2.1 h2
  unfold dlE
  obtain ⟨fr, to, num, much, fee, size, u⟩ := d
  dsimp only [dlA] at hN1 hN2 ⊢
  refine FnSpec.enter (S := Sy) 0 Tryz.func67 rfl rfl rfl Tryz.ntmps67 rfl rfl rfl rfl fun v0 => ?_
  cases b1 : nmB fr with
  | false =>
    rw [b1] at hN1
    rw [if_pos (.inl rfl)]
    (repeat' (first | refine w9x ?_ | refine w9p (hN1) ?_ | refine w9p (hN2) ?_ | (refine w9c ?_ ?_ <;> intro _ <;> try exact w9o) | (refine w9d ?_ ?_ <;> intro _ <;> try exact w9s) | (refine w9q ?_; intro bnil hbnil)))
    all_goals first | (exfalso; omega) | (exfalso; contradiction) | exact .mk rfl rfl rfl
  | true =>
  rw [b1] at hN1
  cases b2 : nmB to with
  | false =>
    rw [b2] at hN2
    rw [if_pos (.inr (.inl rfl))]
    (repeat' (first | refine w9x ?_ | refine w9p (hN1) ?_ | refine w9p (hN2) ?_ | (refine w9c ?_ ?_ <;> intro _ <;> try exact w9o) | (refine w9d ?_ ?_ <;> intro _ <;> try exact w9s) | (refine w9q ?_; intro bnil hbnil)))
    all_goals first | (exfalso; omega) | (exfalso; contradiction) | exact .mk rfl rfl rfl
  | true =>
  rw [b2] at hN2
  by_cases b3 : fr = to
  · rw [if_pos (.inr (.inr b3))]
    (repeat' (first | refine w9x ?_ | refine w9p (hN1) ?_ | refine w9p (hN2) ?_ | (refine w9c ?_ ?_ <;> intro _ <;> try exact w9o) | (refine w9d ?_ ?_ <;> intro _ <;> try exact w9s) | (refine w9q ?_; intro bnil hbnil)))
    all_goals first | (exfalso; omega) | (exfalso; contradiction) | exact .mk rfl rfl rfl
  rw [if_neg (by rintro (h | h | h) <;> first | exact b3 h | cases h)]
  have fin : ∀ (P : Prop) [Decidable P] (n : Int), (P ↔ (num < 0 ∨ 1000000 < num ∨ much < 0 ∨ 1000000 < much ∨ fee < 0 ∨ 1000000 < fee ∨ size < 1 ∨ 100 < size)) → (if P then (1 : Int) else 0) = if (num < 0 ∨ 1000000 < num ∨ much < 0 ∨ 1000000 < much ∨ fee < 0 ∨ 1000000 < fee ∨ size < 1 ∨ 100 < size) then 1 else 0 := fun P _ n h => by
    by_cases hP : P
    · rw [if_pos hP, if_pos (h.1 hP)]
    · rw [if_neg hP, if_neg (fun hh => hP (h.2 hh))]
  rw [fin _ 0 (by
    simp only [Bool.and_true, Bool.and_eq_false_iff, wiB_no]
    constructor
    · rintro ((h | h | h) | h | h) <;> omega
    · intro h; omega)]
  by_cases c : num < 0 ∨ 1000000 < num ∨ much < 0 ∨ 1000000 < much ∨ fee < 0 ∨ 1000000 < fee ∨ size < 1 ∨ 100 < size
  · rw [if_pos c]
    (repeat' (first | refine w9x ?_ | refine w9p (hN1) ?_ | refine w9p (hN2) ?_ | (refine w9c ?_ ?_ <;> intro _ <;> try exact w9o) | (refine w9d ?_ ?_ <;> intro _ <;> try exact w9s) | (refine w9q ?_; intro bnil hbnil)))
    all_goals first | (exfalso; omega) | (exfalso; contradiction) | exact .mk rfl rfl rfl
  · rw [if_neg c]
    (repeat' (first | refine w9x ?_ | refine w9p (hN1) ?_ | refine w9p (hN2) ?_ | (refine w9c ?_ ?_ <;> intro _ <;> try exact w9o) | (refine w9d ?_ ?_ <;> intro _ <;> try exact w9s) | (refine w9q ?_; intro bnil hbnil)))
    all_goals first | (exfalso; omega) | (exfalso; contradiction) | exact .mk rfl rfl rfl
end Go.Proofs.YtkkcnppgcnmikaaGreatDoor
