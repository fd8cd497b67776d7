/- The library's copies and searches of rows. -/
import Derived.Test.YtohgcgedbhlnfaaSl
namespace Go.Proofs.Ytohgcgedbhlnfaa
open Go FM
set_option maxRecDepth 10000
set_option maxHeartbeats 1600000
set_option linter.all false
theorem clone_spec (l : List Int) (hl : l.length ≤ 17592186044416) : FnSpec Sy.P 89 [.sl false 1 ((l).map .int)] [.sl false 1 ((l).map .int)] (.sl true 1 ((l).map .int)) := by
  refine FnSpec.enter (S := Sy) 0 Try.func89 rfl rfl rfl Try.ntmps89 rfl rfl rfl rfl fun v0 => ?_
  (repeat' (first | refine w9x ?_ | (refine w9c ?_ ?_ <;> intro _ <;> try exact w9o) | (refine w9d ?_ ?_ <;> intro _ <;> try exact w9s) | (refine w9q ?_; intro bnil hbnil)))
  · by_cases h : l = []
    · subst h
      exact .mkL rfl .nil rfl
    · have := hbnil (by simpa using h)
      simp_all
  · exact .mk rfl rfl rfl
theorem indexInt_spec (l : List Int) (v : Int) (hl : l.length ≤ 9223372036854775807) : FnSpec Sy.P 101 [.sl false 1 ((l).map .int), .int v] [.sl false 1 ((l).map .int), .int v] (.int (fidx (fun x => decide (v = x)) l 0)) := by
  refine FnSpec.enter (S := Sy) 0 Try.func101 rfl rfl rfl Try.ntmps101 rfl rfl rfl rfl fun v0 => ?_
  (repeat' (first | refine w9x ?_ | (refine w9c ?_ ?_ <;> intro _ <;> try exact w9o) | (refine w9d ?_ ?_ <;> intro _ <;> try exact w9s) | (refine w9q ?_; intro bnil hbnil)))
  refine CW.loop (fun k : Nat => [(0, .av (.sl false 1 ((l).map .int))), (1, .av (.int (v))), (7, .av (.int (l.length))), (8, .av (.int (k)))]) (fun k => k ≤ l.length ∧ fidx (fun x => decide (v = x)) l 0 = fidx (fun x => decide (v = x)) (l.drop k) k) (fun k => l.length - k) (0) ?_ (by exact w9a) ?_
  · exact ⟨Nat.zero_le _, rfl⟩
  intro k ⟨hk, hp⟩
  by_cases hlt : k < l.length
  · have hx : l[k]? = some l[k] := List.getElem?_eq_getElem hlt
    rw [fidx_drop hlt] at hp
    by_cases hb : v = l[k]
    · rw [decide_eq_true hb, cond_true] at hp
      rw [hp]
      (repeat' (first | refine w9x ?_ | (refine w9c ?_ ?_ <;> intro _ <;> try exact w9o) | (refine w9d ?_ ?_ <;> intro _ <;> try exact w9s) | (refine w9q ?_; intro bnil hbnil)))
      exact .mk rfl rfl rfl
    · rw [decide_eq_false hb, cond_false] at hp
      (repeat' (first | refine w9x ?_ | (refine w9c ?_ ?_ <;> intro _ <;> try exact w9o) | (refine w9d ?_ ?_ <;> intro _ <;> try exact w9s) | (refine w9q ?_; intro bnil hbnil)))
      refine ⟨k+1, ?_, by first | omega | (simp only; omega), by exact w9a⟩
      exact ⟨by omega, hp⟩
  · obtain rfl : k = l.length := by omega
    rw [fidx_end] at hp
    rw [hp]
    (repeat' (first | refine w9x ?_ | (refine w9c ?_ ?_ <;> intro _ <;> try exact w9o) | (refine w9d ?_ ?_ <;> intro _ <;> try exact w9s) | (refine w9q ?_; intro bnil hbnil)))
    exact .mk rfl rfl rfl
theorem any_mem {l : List Int} {v : Int} : (l.any fun x => decide (v = x)) = decide (v ∈ l) := by
  rw [Bool.eq_iff_iff, List.any_eq_true, decide_eq_true_iff]
  constructor
  · rintro ⟨x, hx, h⟩; rw [of_decide_eq_true h]; exact hx
  · intro h; exact ⟨v, h, decide_eq_true rfl⟩
theorem contains_spec (l : List Int) (v : Int) (hl : l.length ≤ 9223372036854775807) : FnSpec Sy.P 88 [.sl false 1 ((l).map .int), .int v] [.sl false 1 ((l).map .int), .int v] (.bool (decide (v ∈ l))) := by
  refine FnSpec.enter (S := Sy) 0 Try.func88 rfl rfl rfl Try.ntmps88 rfl rfl rfl rfl fun v0 => ?_
  have h := indexInt_spec l v hl
  (repeat' (first | refine w9x ?_ | refine w9p (h) ?_ | (refine w9c ?_ ?_ <;> intro _ <;> try exact w9o) | (refine w9d ?_ ?_ <;> intro _ <;> try exact w9s) | (refine w9q ?_; intro bnil hbnil)))
  exact .mk rfl (congrArg AV.bool (any_mem.symm.trans fidx_any.symm)) rfl
end Go.Proofs.Ytohgcgedbhlnfaa
