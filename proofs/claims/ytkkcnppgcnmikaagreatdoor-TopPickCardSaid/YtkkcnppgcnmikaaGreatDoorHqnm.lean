/- Accounts: Open. -/
import Derived.Test.YtkkcnppgcnmikaaGreatDoorHnnm
import Derived.Test.YtkkcnppgcnmikaaGreatDoorHhnm
namespace Go.Proofs.YtkkcnppgcnmikaaGreatDoor
open Go FM Go.Proofs
set_option maxRecDepth 10000
set_option maxHeartbeats 3200000
set_option linter.all false
theorem asort_open {l : List Ac} {s : Str} {m : Int} (h : l.Pairwise fun a b => a.1 < b.1) (hf : fA l s < 0) : asort (l ++ [(s, m, 0, ())]) = opM l s m := by
  obtain ⟨h1, h2⟩ := asort_spec (l ++ [(s, m, 0, ())])
  have hp : (asort (l ++ [(s, m, 0, ())])).Perm (opM l s m) := h1.trans opM_perm
  refine nm_unique hp h2 (opM_srt h) fun a ha b hb e => ?_
  exact nm_inj h hf a (h1.mem_iff.1 ha) b (h1.mem_iff.1 hb) e
theorem open_spec (l : List Ac) (s : Str) (m : Int) (hL : AcL l) (h1 : s.length ≤ 9223372036854775807) : FnSpec Sy.P 64 [.sl false 3 (l.map acA), .str s, .int m] [.sl false 3 (l.map acA), .str s, .int m] (resA (opM l s m) (opE l s m)) := by
  have hC := check_spec l hL
  have hN := named_spec s h1
  have hF := find_spec l s hL.len
  have hCr := acE_range l
  have hfr := fA_range l s
  unfold opE resA
  by_cases c1 : acE l = 0
  · have hok := acE_ok c1
    rw [c1] at hC
    rw [if_neg (not_not_intro c1)]
    cases c2 : nmB s with
    | false =>
      rw [c2] at hN
      rw [if_pos rfl, if_neg (by decide)]
      refine FnSpec.enter (S := Sy) 0 Tryz.func64 rfl rfl rfl Tryz.ntmps64 rfl rfl rfl rfl fun v0 => ?_
      (repeat' (first | refine w9x ?_ | refine w9p (hC) ?_ | refine w9p (hN) ?_ | refine w9p (hF) ?_ | (refine w9c ?_ ?_ <;> intro _ <;> try exact w9o) | (refine w9d ?_ ?_ <;> intro _ <;> try exact w9s) | (refine w9q ?_; intro bnil hbnil)))
      all_goals first | (exfalso; omega) | (exfalso; contradiction) | exact .mk rfl rfl rfl
    | true =>
    rw [c2] at hN
    rw [if_neg (show ¬ (true = false) from by simp)]
    by_cases c3 : wiB m = false
    · have hm := wiB_no.1 c3
      rw [if_pos c3, if_neg (by decide)]
      refine FnSpec.enter (S := Sy) 0 Tryz.func64 rfl rfl rfl Tryz.ntmps64 rfl rfl rfl rfl fun v0 => ?_
      (repeat' (first | refine w9x ?_ | refine w9p (hC) ?_ | refine w9p (hN) ?_ | refine w9p (hF) ?_ | (refine w9c ?_ ?_ <;> intro _ <;> try exact w9o) | (refine w9d ?_ ?_ <;> intro _ <;> try exact w9s) | (refine w9q ?_; intro bnil hbnil)))
      all_goals first | (exfalso; omega) | (exfalso; contradiction) | exact .mk rfl rfl rfl
    rw [if_neg c3]
    have hm := wiB_iff.1 (by simpa using c3)
    by_cases c4 : 0 ≤ fA l s
    · rw [if_pos c4, if_neg (by decide)]
      refine FnSpec.enter (S := Sy) 0 Tryz.func64 rfl rfl rfl Tryz.ntmps64 rfl rfl rfl rfl fun v0 => ?_
      (repeat' (first | refine w9x ?_ | refine w9p (hC) ?_ | refine w9p (hN) ?_ | refine w9p (hF) ?_ | (refine w9c ?_ ?_ <;> intro _ <;> try exact w9o) | (refine w9d ?_ ?_ <;> intro _ <;> try exact w9s) | (refine w9q ?_; intro bnil hbnil)))
      all_goals first | (exfalso; omega) | (exfalso; contradiction) | exact .mk rfl rfl rfl
    rw [if_neg c4]
    have hl6 := hok.len
    by_cases c5 : 6 ≤ l.length
    · rw [if_pos c5, if_neg (by decide)]
      refine FnSpec.enter (S := Sy) 0 Tryz.func64 rfl rfl rfl Tryz.ntmps64 rfl rfl rfl rfl fun v0 => ?_
      (repeat' (first | refine w9x ?_ | refine w9p (hC) ?_ | refine w9p (hN) ?_ | refine w9p (hF) ?_ | (refine w9c ?_ ?_ <;> intro _ <;> try exact w9o) | (refine w9d ?_ ?_ <;> intro _ <;> try exact w9s) | (refine w9q ?_; intro bnil hbnil)))
      all_goals first | (exfalso; omega) | (exfalso; contradiction) | exact .mk rfl rfl rfl
    rw [if_neg c5, if_pos rfl]
    have hCl := cloneAc_spec l (by omega)
    rw [← asort_open hok.srt (by omega)]
    have hmap0 : TV.av (AV.sl true 3 (l.map acA ++ [acA (s, m, 0, ())])) = TV.av (AV.sl true 3 ((l ++ [(s, m, 0, ())]).map acA)) := by rw [List.map_append]; rfl
    have hne0 : l ++ [(s, m, 0, ())] ≠ [] := by simp
    have hlb0 : (l ++ [(s, m, 0, ())]).length ≤ 1000000 := by rw [List.length_append, List.length_singleton]; omega
    refine FnSpec.enter (S := Sy) 0 Tryz.func64 rfl rfl rfl Tryz.ntmps64 rfl rfl rfl rfl fun v0 => ?_
    (repeat' (first | (refine acJ (l := l ++ [(s, m, 0, ())]) rfl rfl rfl hmap0 hne0 hlb0 rfl ?_) | refine w9x ?_ | refine w9p (hC) ?_ | refine w9p (hN) ?_ | refine w9p (hF) ?_ | refine w9p (hCl) ?_ | (refine w9c ?_ ?_ <;> intro _ <;> try exact w9o) | (refine w9d ?_ ?_ <;> intro _ <;> try exact w9s) | (refine w9q ?_; intro bnil hbnil)))
    all_goals first | (exfalso; omega) | (exfalso; contradiction) | exact .mk rfl rfl rfl
  · rw [if_pos c1, if_neg c1]
    generalize acE l = e at *
    refine FnSpec.enter (S := Sy) 0 Tryz.func64 rfl rfl rfl Tryz.ntmps64 rfl rfl rfl rfl fun v0 => ?_
    (repeat' (first | refine w9x ?_ | refine w9p (hC) ?_ | (refine w9c ?_ ?_ <;> intro _ <;> try exact w9o) | (refine w9d ?_ ?_ <;> intro _ <;> try exact w9s) | (refine w9q ?_; intro bnil hbnil)))
    all_goals first | (exfalso; omega) | exact .mk rfl rfl rfl
end Go.Proofs.YtkkcnppgcnmikaaGreatDoor
