/- Accounts: Check, and the reference's error. -/
import Derived.Test.YtkkcnppgcnmikaaGreatDoorHcnm
namespace Go.Proofs.YtkkcnppgcnmikaaGreatDoor
open Go FM Go.Proofs
set_option maxRecDepth 10000
set_option maxHeartbeats 3200000
set_option linter.all false
def acR : Str → List Ac → Int
  | _, [] => 0
  | last, a :: r => if nmB a.1 = false ∨ (a.1 < last ∨ a.1 = last) then 3 else if (wiB a.2.1 && (wiB a.2.2.1 && true)) = false then 1 else acR a.1 r
def acE (l : List Ac) : Int := if 6 < l.length then 2 else acR [] l
def prv (l : List Ac) : Nat → Str
  | 0 => []
  | k + 1 => (l.getD k ([], 0, 0, ())).1
theorem prv_succ {l : List Ac} {k : Nat} (h : k < l.length) : prv l (k + 1) = l[k].1 := by
  show (l.getD k ([], 0, 0, ())).1 = _
  rw [List.getD_eq_getElem?_getD, List.getElem?_eq_getElem h]; rfl
theorem acR_drop {l : List Ac} {k : Nat} (h : k < l.length) : acR (prv l k) (l.drop k) = if nmB l[k].1 = false ∨ (l[k].1 < prv l k ∨ l[k].1 = prv l k) then 3 else if (wiB l[k].2.1 && (wiB l[k].2.2.1 && true)) = false then 1 else acR (prv l (k + 1)) (l.drop (k + 1)) := by
  rw [List.drop_eq_getElem_cons h, prv_succ h]; rfl
theorem nmB_ne {s : Str} (h : nmB s = true) : ¬ (s < [] ∨ s = []) := by
  rintro (h' | h')
  · cases s <;> cases h'
  · subst h'; cases h
structure AcL (l : List Ac) : Prop where
  len : l.length ≤ 9223372036854775807
  str : ∀ a ∈ l, a.1.length ≤ 9223372036854775807
theorem check_spec (l : List Ac) (h : AcL l) : FnSpec Sy.P 102 [.sl false 3 (l.map acA)] [.sl false 3 (l.map acA)] (.int (acE l)) := by
  have hl := h.len
  refine FnSpec.enter (S := Sy) 0 Tryz.func102 rfl rfl rfl Tryz.ntmps102 rfl rfl rfl rfl fun v0 => ?_
  by_cases h6 : 6 < l.length
  · rw [show acE l = 2 from if_pos h6]
    (repeat' (first | refine w9x ?_ | (refine w9c ?_ ?_ <;> intro _ <;> try exact w9o) | (refine w9d ?_ ?_ <;> intro _ <;> try exact w9s) | (refine w9q ?_; intro bnil hbnil)))
    all_goals first | (exfalso; omega) | exact .mk rfl rfl rfl
  rw [show acE l = acR [] l from if_neg h6]
  (repeat' (first | refine w9x ?_ | (refine w9c ?_ ?_ <;> intro _ <;> try exact w9o) | (refine w9d ?_ ?_ <;> intro _ <;> try exact w9s) | (refine w9q ?_; intro bnil hbnil)))
  all_goals first | (exfalso; omega) | skip
  refine CW.loop (fun k : Nat => [(0, .av (.sl false 3 (l.map acA))), (8, .av (.sl false 3 (l.map acA))), (9, .av (.int (l.length))), (10, .av (.int (k)))]) (fun k => k ≤ l.length ∧ acR [] l = acR (prv l k) (l.drop k)) (fun k => l.length - k) (0) ?_ (by exact w9a) ?_
  · exact ⟨Nat.zero_le _, rfl⟩
  intro k ⟨hk, ha⟩
  by_cases hkl : k < l.length
  · have hx : l[k]? = some l[k] := List.getElem?_eq_getElem hkl
    have hN := named_spec l[k].1 (h.str _ (List.getElem_mem hkl))
    rw [acR_drop hkl] at ha
    have hpv := prv_succ hkl
    rw [hpv] at ha
    generalize l[k] = a at *
    cases b1 : nmB a.1 with
    | false =>
      rw [b1] at hN
      rw [if_pos (.inl b1)] at ha
      rw [ha]
      (repeat' (first | refine w9x ?_ | refine w9p (hN) ?_ | (refine w9c ?_ ?_ <;> intro _ <;> try exact w9o) | (refine w9d ?_ ?_ <;> intro _ <;> try exact w9s) | (refine w9q ?_; intro bnil hbnil)))
      all_goals first | (exfalso; omega) | (exfalso; contradiction) | exact .mk rfl rfl rfl
    | true =>
      rw [b1] at hN
      have fin : (if (wiB a.2.1 && (wiB a.2.2.1 && true)) = false then (1 : Int) else acR a.1 (l.drop (k + 1))) = if a.2.1 < 0 ∨ 1000000 < a.2.1 ∨ a.2.2.1 < 0 ∨ 1000000 < a.2.2.1 then 1 else acR a.1 (l.drop (k + 1)) := by
        by_cases c : a.2.1 < 0 ∨ 1000000 < a.2.1 ∨ a.2.2.1 < 0 ∨ 1000000 < a.2.2.1
        · rw [if_pos c, if_pos (by simp only [Bool.and_true, Bool.and_eq_false_iff, wiB_no]; omega)]
        · rw [if_neg c, if_neg (by simp only [Bool.and_true, Bool.and_eq_false_iff, wiB_no]; omega)]
      rw [fin] at ha
      cases k with
      | zero =>
        have hne := nmB_ne b1
        rw [if_neg (by rintro (h | h); rw [b1] at h; cases h; exact hne h)] at ha
        by_cases c : a.2.1 < 0 ∨ 1000000 < a.2.1 ∨ a.2.2.1 < 0 ∨ 1000000 < a.2.2.1
        · rw [if_pos c] at ha
          rw [ha]
          (repeat' (first | refine w9x ?_ | refine w9p (hN) ?_ | (refine w9c ?_ ?_ <;> intro _ <;> try exact w9o) | (refine w9d ?_ ?_ <;> intro _ <;> try exact w9s) | (refine w9q ?_; intro bnil hbnil)))
          all_goals first | (exfalso; omega) | (exfalso; contradiction) | exact .mk rfl rfl rfl
        · rw [if_neg c] at ha
          (repeat' (first | refine w9x ?_ | refine w9p (hN) ?_ | (refine w9c ?_ ?_ <;> intro _ <;> try exact w9o) | (refine w9d ?_ ?_ <;> intro _ <;> try exact w9s) | (refine w9q ?_; intro bnil hbnil)))
          all_goals first | (exfalso; omega) | (exfalso; contradiction) | skip
          refine ⟨0+1, ?_, by first | omega | (simp only; omega), by exact w9a⟩
          exact ⟨by omega, by rw [hpv]; exact ha⟩
      | succ k =>
        have hk2 : k < l.length := by omega
        have hp : l[(((k + 1 : Nat) : Int) - 1).toNat]? = some l[k] := by rw [show (((k + 1 : Nat) : Int) - 1).toNat = k by omega]; exact List.getElem?_eq_getElem hk2
        have hpp := prv_succ hk2
        rw [hpp] at ha
        generalize l[k] = a0 at *
        by_cases b2 : a.1 < a0.1 ∨ a.1 = a0.1
        · rw [if_pos (.inr b2)] at ha
          rw [ha]
          (repeat' (first | refine w9x ?_ | refine w9p (hN) ?_ | (refine w9c ?_ ?_ <;> intro _ <;> try exact w9o) | (refine w9d ?_ ?_ <;> intro _ <;> try exact w9s) | (refine w9q ?_; intro bnil hbnil)))
          all_goals first | (exfalso; omega) | (exfalso; contradiction) | exact .mk rfl rfl rfl
        · rw [if_neg (by rintro (h | h); rw [b1] at h; cases h; exact b2 h)] at ha
          by_cases c : a.2.1 < 0 ∨ 1000000 < a.2.1 ∨ a.2.2.1 < 0 ∨ 1000000 < a.2.2.1
          · rw [if_pos c] at ha
            rw [ha]
            (repeat' (first | refine w9x ?_ | refine w9p (hN) ?_ | (refine w9c ?_ ?_ <;> intro _ <;> try exact w9o) | (refine w9d ?_ ?_ <;> intro _ <;> try exact w9s) | (refine w9q ?_; intro bnil hbnil)))
            all_goals first | (exfalso; omega) | (exfalso; contradiction) | exact .mk rfl rfl rfl
          · rw [if_neg c] at ha
            (repeat' (first | refine w9x ?_ | refine w9p (hN) ?_ | (refine w9c ?_ ?_ <;> intro _ <;> try exact w9o) | (refine w9d ?_ ?_ <;> intro _ <;> try exact w9s) | (refine w9q ?_; intro bnil hbnil)))
            all_goals first | (exfalso; omega) | (exfalso; contradiction) | skip
            refine ⟨k+1+1, ?_, by first | omega | (simp only; omega), by exact w9a⟩
            exact ⟨by omega, by rw [hpv]; exact ha⟩
  · obtain rfl : l.length = k := by omega
    rw [List.drop_length] at ha
    rw [ha]
    (repeat' (first | refine w9x ?_ | (refine w9c ?_ ?_ <;> intro _ <;> try exact w9o) | (refine w9d ?_ ?_ <;> intro _ <;> try exact w9s) | (refine w9q ?_; intro bnil hbnil)))
    exact .mk rfl rfl rfl
end Go.Proofs.YtkkcnppgcnmikaaGreatDoor
