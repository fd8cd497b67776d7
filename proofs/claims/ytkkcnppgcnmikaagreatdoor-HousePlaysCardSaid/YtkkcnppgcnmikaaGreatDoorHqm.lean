/- Accounts: Open. -/
import Derived.Test.YtkkcnppgcnmikaaGreatDoorHnm
import Derived.Test.YtkkcnppgcnmikaaGreatDoorHhm
import Derived.Test.YtkkcnppgcnmikaaGreatDoorHom
import Derived.Test.YtkkcnppgcnmikaaGreatDoorHjm
namespace Go.Proofs.YtkkcnppgcnmikaaGreatDoor
open Go FM Go.Proofs
set_option maxRecDepth 10000
set_option maxHeartbeats 3200000
set_option linter.all false
theorem asort_open {l : List Ac} {s : Str} {m : Int} (h : l.Pairwise fun a b => a.1 < b.1) (hf : fA l s < 0) : asort (l ++ [(s, m, 0, ())]) = opM l s m := by
  obtain ⟨h1, h2⟩ := asort_spec (l ++ [(s, m, 0, ())])
  have hp : (asort (l ++ [(s, m, 0, ())])).Perm (opM l s m) := h1.trans opM_perm
  refine nm_unique hp h2 (opM_srt h) fun a ha b hb e => ?_
  exact nm_inj h hf a (h1.mem_iff.1 ha) b (h1.mem_iff.1 hb) e
theorem open_spec (l : List Ac) (s : Str) (m : Int) (hL : AcL l) (h1 : s.length ≤ 9223372036854775807) : FnSpec Sy.P 64 [.sl false 3 (l.map acA), .str s, .int m] [.sl false 3 (l.map acA), .str s, .int m] (resA (opM l s m) (opE l s m)) := by
  have hC := check_spec l hL
  have hN := named_spec s h1
  have hF := find_spec l s hL.len
  have hCr := acE_range l
  have hfr := fA_range l s
  unfold opE resA
  by_cases c1 : acE l = 0
  · have hok := acE_ok c1
    rw [c1] at hC
    rw [if_neg (not_not_intro c1)]
    cases c2 : nmB s with
    | false =>
      rw [c2] at hN
      rw [if_pos rfl, if_neg (by decide)]
      refine FnSpec.enter (S := Sy) 0 Tryz.func64 rfl rfl rfl Tryz.ntmps64 rfl rfl rfl rfl fun v0 => ?_
      (repeat' (first | refine w9x ?_ | refine w9p (hC) ?_ | refine w9p (hN) ?_ | refine w9p (hF) ?_ | (refine w9c ?_ ?_ <;> intro _ <;> try exact w9o) | (refine w9d ?_ ?_ <;> intro _ <;> try exact w9s) | (refine w9q ?_; intro bnil hbnil)))
      all_goals first | (exfalso; omega) | (exfalso; contradiction) | exact .mk rfl rfl rfl
    | true =>
    rw [c2] at hN
    rw [if_neg (show ¬ (true = false) from by simp)]
    by_cases c3 : wiB m = false
    · have hm := wiB_no.1 c3
      rw [if_pos c3, if_neg (by decide)]
      refine FnSpec.enter (S := Sy) 0 Tryz.func64 rfl rfl rfl Tryz.ntmps64 rfl rfl rfl rfl fun v0 => ?_
      (repeat' (first | refine w9x ?_ | refine w9p (hC) ?_ | refine w9p (hN) ?_ | refine w9p (hF) ?_ | (refine w9c ?_ ?_ <;> intro _ <;> try exact w9o) | (refine w9d ?_ ?_ <;> intro _ <;> try exact w9s) | (refine w9q ?_; intro bnil hbnil)))
      all_goals first | (exfalso; omega) | (exfalso; contradiction) | exact .mk rfl rfl rfl
    rw [if_neg c3]
    have hm := wiB_iff.1 (by simpa using c3)
    by_cases c4 : 0 ≤ fA l s
    · rw [if_pos c4, if_neg (by decide)]
      refine FnSpec.enter (S := Sy) 0 Tryz.func64 rfl rfl rfl Tryz.ntmps64 rfl rfl rfl rfl fun v0 => ?_
      (repeat' (first | refine w9x ?_ | refine w9p (hC) ?_ | refine w9p (hN) ?_ | refine w9p (hF) ?_ | (refine w9c ?_ ?_ <;> intro _ <;> try exact w9o) | (refine w9d ?_ ?_ <;> intro _ <;> try exact w9s) | (refine w9q ?_; intro bnil hbnil)))
      all_goals first | (exfalso; omega) | (exfalso; contradiction) | exact .mk rfl rfl rfl
    rw [if_neg c4]
    have hl6 := hok.len
    by_cases c5 : 6 ≤ l.length
    · rw [if_pos c5, if_neg (by decide)]
      refine FnSpec.enter (S := Sy) 0 Tryz.func64 rfl rfl rfl Tryz.ntmps64 rfl rfl rfl rfl fun v0 => ?_
      (repeat' (first | refine w9x ?_ | refine w9p (hC) ?_ | refine w9p (hN) ?_ | refine w9p (hF) ?_ | (refine w9c ?_ ?_ <;> intro _ <;> try exact w9o) | (refine w9d ?_ ?_ <;> intro _ <;> try exact w9s) | (refine w9q ?_; intro bnil hbnil)))
      all_goals first | (exfalso; omega) | (exfalso; contradiction) | exact .mk rfl rfl rfl
    rw [if_neg c5, if_pos rfl]
    have hCl := cloneAc_spec l (by omega)
    rw [← asort_open hok.srt (by omega)]
    have hmap0 : TV.av (AV.sl true 3 (l.map acA ++ [acA (s, m, 0, ())])) = TV.av (AV.sl true 3 ((l ++ [(s, m, 0, ())]).map acA)) := by rw [List.map_append]; rfl
    have hne0 : l ++ [(s, m, 0, ())] ≠ [] := by simp
    have hlb0 : (l ++ [(s, m, 0, ())]).length ≤ 1000000 := by rw [List.length_append, List.length_singleton]; omega
    refine FnSpec.enter (S := Sy) 0 Tryz.func64 rfl rfl rfl Tryz.ntmps64 rfl rfl rfl rfl fun v0 => ?_
    (repeat' (first | (refine acJ (l := l ++ [(s, m, 0, ())]) rfl rfl rfl hmap0 hne0 hlb0 rfl ?_) | refine w9x ?_ | refine w9p (hC) ?_ | refine w9p (hN) ?_ | refine w9p (hF) ?_ | refine w9p (hCl) ?_ | (refine w9c ?_ ?_ <;> intro _ <;> try exact w9o) | (refine w9d ?_ ?_ <;> intro _ <;> try exact w9s) | (refine w9q ?_; intro bnil hbnil)))
    all_goals first | (exfalso; omega) | (exfalso; contradiction) | exact .mk rfl rfl rfl
  · rw [if_pos c1, if_neg c1]
    generalize acE l = e at *
    refine FnSpec.enter (S := Sy) 0 Tryz.func64 rfl rfl rfl Tryz.ntmps64 rfl rfl rfl rfl fun v0 => ?_
    (repeat' (first | refine w9x ?_ | refine w9p (hC) ?_ | (refine w9c ?_ ?_ <;> intro _ <;> try exact w9o) | (refine w9d ?_ ?_ <;> intro _ <;> try exact w9s) | (refine w9q ?_; intro bnil hbnil)))
    all_goals first | (exfalso; omega) | exact .mk rfl rfl rfl
end Go.Proofs.YtkkcnppgcnmikaaGreatDoor

/- Accounts: the reference's Open. -/
namespace Go.Proofs.YtkkcnppgcnmikaaGreatDoor
open Go FM Go.Proofs
set_option maxRecDepth 10000
set_option maxHeartbeats 3200000
set_option linter.all false
theorem insEnd_spec (l : List Ac) (x : Ac) (hl : l.length ≤ 1000) : FnSpec Sy.P 80 [.sl true 3 (l.map acA), .int l.length, .sl false 3 ([x].map acA)] [.dead, .int l.length, .sl false 3 ([x].map acA)] (.sl true 3 ((l ++ [x]).map acA)) := by
  refine FnSpec.enter (S := Sy) 1 Tryz.func80 rfl rfl rfl Tryz.ntmps80 rfl rfl rfl rfl fun v0 => ?_
  (repeat' (first | ((with_reducible apply J.step); rfl; (exact s_slcRlo rfl rfl (sh_map (fun _ => rfl)) rfl rfl rfl rfl (by omega) (by omega) rfl)) | refine w9x ?_ | (refine w9c ?_ ?_ <;> intro _ <;> try exact w9o) | (refine w9d ?_ ?_ <;> intro _ <;> try exact w9s) | (refine w9q ?_; intro bnil hbnil)))
  all_goals first | (exfalso; omega) | exact ⟨rfl, ⟨_, rfl, .refl _⟩, rfl, args_start (args_mv rfl (args_pl rfl (args_pl rfl args_nil)))⟩
theorem noSh_acs {l : List Ac} : NoSh (.sl true 3 (l.map acA)) := .sl fun y hy => by obtain ⟨z, _, rfl⟩ := List.mem_map.1 hy; exact noSh_aggL rfl
theorem openOf_spec (l : List Ac) (s : Str) (m : Int) (hL : AcL l) (h1 : s.length ≤ 9223372036854775807) : FnSpec Sy.P 35 [.sl false 3 (l.map acA), .str s, .int m] [.sl false 3 (l.map acA), .str s, .int m] (resA (opM l s m) (opE l s m)) := by
  have hC := accErr_spec l hL
  have hN := namedR_spec s h1
  have hF := accOf_spec l s hL.len
  have hW := within_spec [m] (by simp)
  simp only [List.all_cons, List.all_nil, Bool.and_true] at hW
  have hCr := acE_range l
  have hfr := fA_range l s
  unfold opE resA
  by_cases c1 : acE l = 0
  · have hok := acE_ok c1
    rw [c1] at hC
    rw [if_neg (not_not_intro c1)]
    cases c2 : nmB s with
    | false =>
      rw [c2] at hN
      rw [if_pos rfl, if_neg (by decide)]
      refine FnSpec.enter (S := Sy) 0 Tryz.func35 rfl rfl rfl Tryz.ntmps35 rfl rfl rfl rfl fun v0 => ?_
      (repeat' (first | refine w9x ?_ | refine w9p (hC) ?_ | refine w9p (hN) ?_ | refine w9p (hF) ?_ | (refine w9c ?_ ?_ <;> intro _ <;> try exact w9o) | (refine w9d ?_ ?_ <;> intro _ <;> try exact w9s) | (refine w9q ?_; intro bnil hbnil)))
      all_goals first | (exfalso; omega) | (exfalso; contradiction) | exact .mk rfl rfl rfl
    | true =>
    rw [c2] at hN
    rw [if_neg (show ¬ (true = false) from by simp)]
    cases c3 : wiB m with
    | false =>
      rw [c3] at hW
      rw [if_pos rfl, if_neg (by decide)]
      refine FnSpec.enter (S := Sy) 0 Tryz.func35 rfl rfl rfl Tryz.ntmps35 rfl rfl rfl rfl fun v0 => ?_
      (repeat' (first | refine w9x ?_ | refine w9p (hC) ?_ | refine w9p (hN) ?_ | refine w9p (hF) ?_ | refine w9p (hW) ?_ | (refine w9c ?_ ?_ <;> intro _ <;> try exact w9o) | (refine w9d ?_ ?_ <;> intro _ <;> try exact w9s) | (refine w9q ?_; intro bnil hbnil)))
      all_goals first | (exfalso; omega) | (exfalso; contradiction) | exact .mk rfl rfl rfl
    | true =>
    rw [c3] at hW
    rw [if_neg (show ¬ (true = false) from by simp)]
    by_cases c4 : 0 ≤ fA l s
    · rw [if_pos c4, if_neg (by decide)]
      refine FnSpec.enter (S := Sy) 0 Tryz.func35 rfl rfl rfl Tryz.ntmps35 rfl rfl rfl rfl fun v0 => ?_
      (repeat' (first | refine w9x ?_ | refine w9p (hC) ?_ | refine w9p (hN) ?_ | refine w9p (hF) ?_ | refine w9p (hW) ?_ | (refine w9c ?_ ?_ <;> intro _ <;> try exact w9o) | (refine w9d ?_ ?_ <;> intro _ <;> try exact w9s) | (refine w9q ?_; intro bnil hbnil)))
      all_goals first | (exfalso; omega) | (exfalso; contradiction) | exact .mk rfl rfl rfl
    rw [if_neg c4]
    have hl6 := hok.len
    by_cases c5 : 6 ≤ l.length
    · rw [if_pos c5, if_neg (by decide)]
      refine FnSpec.enter (S := Sy) 0 Tryz.func35 rfl rfl rfl Tryz.ntmps35 rfl rfl rfl rfl fun v0 => ?_
      (repeat' (first | refine w9x ?_ | refine w9p (hC) ?_ | refine w9p (hN) ?_ | refine w9p (hF) ?_ | refine w9p (hW) ?_ | (refine w9c ?_ ?_ <;> intro _ <;> try exact w9o) | (refine w9d ?_ ?_ <;> intro _ <;> try exact w9s) | (refine w9q ?_; intro bnil hbnil)))
      all_goals first | (exfalso; omega) | (exfalso; contradiction) | exact .mk rfl rfl rfl
    rw [if_neg c5, if_pos rfl]
    have hCl := cloneAc_spec l (by omega)
    have hIns := insEnd_spec l (s, m, 0, ()) (by omega)
    have hok0 := opK_le (l := l) (s := s)
    refine FnSpec.enter (S := Sy) 0 Tryz.func35 rfl rfl rfl Tryz.ntmps35 rfl rfl rfl rfl fun v0 => ?_
    (repeat' (first | refine w9x ?_ | refine w9p (hC) ?_ | refine w9p (hN) ?_ | refine w9p (hF) ?_ | refine w9p (hW) ?_ | (refine w9c ?_ ?_ <;> intro _ <;> try exact w9o) | (refine w9d ?_ ?_ <;> intro _ <;> try exact w9s) | (refine w9q ?_; intro bnil hbnil)))
    all_goals first | (exfalso; omega) | (exfalso; contradiction) | skip
    refine CW.loop (fun k : Nat => [(0, .av (.sl false 3 (l.map acA))), (1, .av (.str s)), (2, .av (.int (m))), (9, .av (.int (k)))]) (fun k => k ≤ opK l s) (fun k => l.length - k) (0) ?_ (by exact w9a) ?_
    · exact Nat.zero_le _
    intro k hk
    by_cases hlt : k < opK l s
    · have hkl : k < l.length := by omega
      have hx : l[k]? = some l[k] := List.getElem?_eq_getElem hkl
      have hs := opK_lt hlt hkl
      generalize l[k] = a at *
      (repeat' (first | refine w9x ?_ | (refine w9c ?_ ?_ <;> intro _ <;> try exact w9o) | (refine w9d ?_ ?_ <;> intro _ <;> try exact w9s) | (refine w9q ?_; intro bnil hbnil)))
      all_goals first | (exfalso; omega) | (exfalso; contradiction) | skip
      refine ⟨k+1, ?_, by first | omega | (simp only; omega), by exact w9a⟩
      omega
    · obtain rfl : k = opK l s := by omega
      by_cases hkl : opK l s < l.length
      · have hx : l[opK l s]? = some l[opK l s] := List.getElem?_eq_getElem hkl
        have hs := opK_at hkl
        unfold opM
        generalize l[opK l s] = a at *
        (repeat' (first | (refine insJ (l := l) (x := (s, m, 0, ())) rfl rfl rfl hkl (by omega) rfl rfl rfl rfl ?_) | refine w9x ?_ | refine w9p (hCl) ?_ | (refine w9c ?_ ?_ <;> intro _ <;> try exact w9o) | (refine w9d ?_ ?_ <;> intro _ <;> try exact w9s) | (refine w9q ?_; intro bnil hbnil)))
        all_goals first | (exfalso; omega) | (exfalso; contradiction) | exact .mk rfl rfl rfl
      · have e : opK l s = l.length := by omega
        unfold opM
        rw [e, List.take_length, List.drop_length]
        (repeat' (first | (refine J.callM1 hIns rfl rfl rfl rfl rfl (.cons (.pl rfl rfl) (.cons (.br rfl rfl rfl rfl) .nil)) noSh_acs .dead ?_) | refine w9x ?_ | refine w9p (hCl) ?_ | (refine w9c ?_ ?_ <;> intro _ <;> try exact w9o) | (refine w9d ?_ ?_ <;> intro _ <;> try exact w9s) | (refine w9q ?_; intro bnil hbnil)))
        all_goals first | (exfalso; omega) | (exfalso; contradiction) | exact .mk rfl rfl rfl
  · rw [if_pos c1, if_neg c1]
    generalize acE l = e at *
    refine FnSpec.enter (S := Sy) 0 Tryz.func35 rfl rfl rfl Tryz.ntmps35 rfl rfl rfl rfl fun v0 => ?_
    (repeat' (first | refine w9x ?_ | refine w9p (hC) ?_ | (refine w9c ?_ ?_ <;> intro _ <;> try exact w9o) | (refine w9d ?_ ?_ <;> intro _ <;> try exact w9s) | (refine w9q ?_; intro bnil hbnil)))
    all_goals first | (exfalso; omega) | exact .mk rfl rfl rfl
end Go.Proofs.YtkkcnppgcnmikaaGreatDoor
