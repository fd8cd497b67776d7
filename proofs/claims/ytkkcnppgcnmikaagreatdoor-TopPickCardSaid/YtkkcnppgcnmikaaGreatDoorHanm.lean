/- Accounts: names. -/
import Derived.Test.YtkkcnppgcnmikaaGreatDoorFrnm
import Derived.Test.YtkkcnppgcnmikaaGreatDoorFsnm
import Derived.Test.YtkkcnppgcnmikaaGreatDoorChecked
import Derived.Shelf.Strings.SlTrimAscii
import Derived.Test.YtkkcnppgcnmikaaGreatDoorSlnm
import Derived.Lib.SlTrimSet
namespace FM
open Go Go.RowKit
end FM
namespace Go.Proofs.YtkkcnppgcnmikaaGreatDoor
open Go FM Go.Proofs
set_option maxRecDepth 10000
set_option maxHeartbeats 1600000
set_option linter.all false
abbrev Str := List UInt8
end Go.Proofs.YtkkcnppgcnmikaaGreatDoor

/- Accounts: what is right. -/
namespace Go.Proofs.YtkkcnppgcnmikaaGreatDoor
open Go FM Go.Proofs
set_option maxRecDepth 10000
set_option maxHeartbeats 3200000
set_option linter.all false
def azB (c : UInt8) : Bool := decide (97 ≤ c.toNat ∧ c.toNat ≤ 122)
def nmB (s : Str) : Bool := decide (0 < s.length ∧ s.length ≤ 8) && s.all azB
theorem named_spec (s : Str) (hs : s.length ≤ 9223372036854775807) : FnSpec Sy.P 121 [.str s] [.str s] (.bool (nmB s)) := by
  refine FnSpec.enter (S := Sy) 0 Tryz.func121 rfl rfl rfl Tryz.ntmps121 rfl rfl rfl rfl fun v0 => ?_
  (repeat' (first | refine w9x ?_ | (refine w9c ?_ ?_ <;> intro _ <;> try exact w9o) | (refine w9d ?_ ?_ <;> intro _ <;> try exact w9s) | (refine w9q ?_; intro bnil hbnil)))
  refine CW.loop (fun k : Nat => [(0, .av (.str s)), (6, .av (.sl false 1 (s.map b8))), (7, .av (.int (s.length))), (8, .av (.int (k)))]) (fun k => k ≤ s.length ∧ (s.take k).all azB = true) (fun k => s.length - k) (0) ?_ (by exact w9a) ?_
  · exact ⟨Nat.zero_le _, rfl⟩
  intro k ⟨hk, ha⟩
  by_cases hkl : k < s.length
  · have hx : s[k]? = some s[k] := List.getElem?_eq_getElem hkl
    have hm : s[k] ∈ s := List.getElem_mem hkl
    have hat : (s.take (k + 1)).all azB = azB s[k] := by rw [List.take_succ_eq_append_getElem hkl, List.all_append, ha]; simp
    generalize s[k] = c at *
    by_cases hc : 97 ≤ c.toNat ∧ c.toNat ≤ 122
    · rw [show azB c = true from decide_eq_true hc] at hat
      (repeat' (first | refine w9x ?_ | (refine w9c ?_ ?_ <;> intro _ <;> try exact w9o) | (refine w9d ?_ ?_ <;> intro _ <;> try exact w9s) | (refine w9q ?_; intro bnil hbnil)))
      all_goals first | (exfalso; omega) | skip
      refine ⟨k+1, ?_, by first | omega | (simp only; omega), by exact w9a⟩
      exact ⟨by omega, hat⟩
    · have hno : nmB s = false := by
        unfold nmB
        rw [List.all_eq_false.2 ⟨c, hm, by rw [show azB c = false from decide_eq_false hc]; simp⟩, Bool.and_false]
      rw [hno]
      (repeat' (first | refine w9x ?_ | (refine w9c ?_ ?_ <;> intro _ <;> try exact w9o) | (refine w9d ?_ ?_ <;> intro _ <;> try exact w9s) | (refine w9q ?_; intro bnil hbnil)))
      all_goals first | (exfalso; omega) | exact .mk rfl rfl rfl
  · obtain rfl : s.length = k := by omega
    rw [List.take_length] at ha
    have hn : nmB s = decide (0 < s.length ∧ s.length ≤ 8) := by unfold nmB; rw [ha, Bool.and_true]
    rw [hn]
    (repeat' (first | refine w9x ?_ | (refine w9c ?_ ?_ <;> intro _ <;> try exact w9o) | (refine w9d ?_ ?_ <;> intro _ <;> try exact w9s) | (refine w9q ?_; intro bnil hbnil)))
    all_goals first | (exfalso; omega) | exact .mk rfl (congrArg AV.bool (by first | exact decide_eq_true (by omega) | exact decide_eq_false (by omega) | (rw [decide_eq_decide]; omega))) rfl
end Go.Proofs.YtkkcnppgcnmikaaGreatDoor
