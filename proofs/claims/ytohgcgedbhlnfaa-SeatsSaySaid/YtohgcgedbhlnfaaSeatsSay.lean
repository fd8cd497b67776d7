/- 'plumelaw.SeatsSay' returns true, as a contract. -/
import Derived.Test.YtohgcgedbhlnfaaNk
namespace Go.Proofs.Ytohgcgedbhlnfaa
open Go FM Go.Proofs
set_option maxRecDepth 10000
set_option maxHeartbeats 3200000
set_option linter.all false
theorem seatsSay_spec (way : Int) (l : List Int) (H : Int) (hl : l.length ≤ 9223372036854775807) : FnSpec Sy.P 5 [.int way, .sl false 1 ((l).map .int), .int H] [.int way, .sl false 1 ((l).map .int), .int H] (.bool true) := by
  have hC := sCheck_spec l H hl
  have hP := peopleErr_spec l H hl
  by_cases c1 : way < 1 ∨ 3 < way
  · have hS := share_way way H l c1
    generalize peE l H = e at *
    refine FnSpec.enter (S := Sy) 0 Try.func5 rfl rfl rfl Try.ntmps5 rfl rfl rfl rfl fun v0 => ?_
    (repeat' (first | refine w9x ?_ | refine w9p (hC) ?_ | refine w9p (hP) ?_ | refine w9p (hS) ?_ | (refine w9c ?_ ?_ <;> intro _ <;> try exact w9o) | (refine w9d ?_ ?_ <;> intro _ <;> try exact w9s) | (refine w9q ?_; intro bnil hbnil)))
    all_goals first | (exfalso; omega) | exact .mk rfl rfl rfl
  by_cases c2 : peE l H ≠ 0
  · have hS := share_err way H l (by omega) hl c2
    generalize peE l H = e at *
    refine FnSpec.enter (S := Sy) 0 Try.func5 rfl rfl rfl Try.ntmps5 rfl rfl rfl rfl fun v0 => ?_
    (repeat' (first | refine w9x ?_ | refine w9p (hC) ?_ | refine w9p (hP) ?_ | refine w9p (hS) ?_ | (refine w9c ?_ ?_ <;> intro _ <;> try exact w9o) | (refine w9d ?_ ?_ <;> intro _ <;> try exact w9s) | (refine w9q ?_; intro bnil hbnil)))
    all_goals first | (exfalso; omega) | exact .mk rfl (congrArg AV.bool (by simp)) rfl | exact .mk rfl rfl rfl
  have he : peE l H = 0 := Classical.not_not.1 c2
  have hk : 0 < l.length ∧ l.length ≤ 8 ∧ (∀ x ∈ l, 0 ≤ x ∧ x ≤ 1000000) ∧ 0 < l.sum ∧ 0 ≤ H ∧ H ≤ 100 := by
    unfold peE at he
    by_cases k1 : l.length = 0 ∨ 8 < l.length
    · rw [if_pos k1] at he; cases he
    rw [if_neg k1] at he
    by_cases k2 : l.any badPp = true
    · rw [if_pos k2] at he; cases he
    rw [if_neg k2] at he
    have hall := pe_all (by simpa using k2)
    have hne : l ≠ [] := fun e => by subst e; exact k1 (.inl rfl)
    by_cases k3 : gmax l = 0
    · rw [if_pos k3] at he; cases he
    rw [if_neg k3] at he
    have k3' : ¬ l.sum = 0 := fun e => k3 ((gmax_zero hne hall).2 e)
    have hs := sum_nn hall
    by_cases k4 : H < 0 ∨ 100 < H
    · rw [if_pos k4] at he; cases he
    exact ⟨by omega, by omega, hall, by omega, by omega, by omega⟩
  obtain ⟨h1, h2, h3, h4, h5, h6⟩ := hk
  obtain ⟨n, rfl⟩ : ∃ n : Nat, H = n := ⟨H.toNat, by omega⟩
  rw [he] at hC hP
  have fin : ∀ R : List Int, R.length ≤ 9223372036854775807 → FnSpec Sy.P 21 [.int way, .sl false 1 ((l).map .int), .int n] [.int way, .sl false 1 ((l).map .int), .int n] (.tup [.sl true 1 ((R).map .int), .int 0]) → FnSpec Sy.P 25 [.int way, .sl false 1 ((l).map .int), .int n] [.int way, .sl false 1 ((l).map .int), .int n] (.sl true 1 ((R).map .int)) →
      FnSpec Sy.P 5 [.int way, .sl false 1 ((l).map .int), .int n] [.int way, .sl false 1 ((l).map .int), .int n] (.bool true) := fun R hR hS hO => by
    have hE := equal_spec R R hR
    rw [decide_eq_true rfl] at hE
    refine FnSpec.enter (S := Sy) 0 Try.func5 rfl rfl rfl Try.ntmps5 rfl rfl rfl rfl fun v0 => ?_
    (repeat' (first | refine w9x ?_ | refine w9p (hC) ?_ | refine w9p (hP) ?_ | refine w9p (hS) ?_ | refine w9p (hO) ?_ | refine w9p (hE) ?_ | (refine w9c ?_ ?_ <;> intro _ <;> try exact w9o) | (refine w9d ?_ ?_ <;> intro _ <;> try exact w9s) | (refine w9q ?_; intro bnil hbnil)))
    all_goals first | (exfalso; omega) | exact .mk rfl rfl rfl
  by_cases c3 : way = 3
  · subst c3
    exact fin _ (by rw [cntB_len, List.length_map]; omega) (share3 n (by omega) l h1 h2 h3 h4 he) (sharesOf3 n (by omega) l h1 h2 h3 h4)
  · exact fin _ (by rw [cnts_len]; omega) (share12 way (by omega) n (by omega) l h1 h2 h3 he) (sharesOf12 way (by omega) n (by omega) l h1 h2 h3)
end Go.Proofs.Ytohgcgedbhlnfaa
