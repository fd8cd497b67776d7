/- Offers: Add, Drop. -/
import Derived.Test.YtkkcnppgcnmikaaGreatDoorHtnm
import Derived.Test.YtkkcnppgcnmikaaGreatDoorHhnm
namespace Go.Proofs.YtkkcnppgcnmikaaGreatDoor
open Go FM Go.Proofs
set_option maxRecDepth 10000
set_option maxHeartbeats 3200000
set_option linter.all false
def resD (l : List Dl) (e : Int) : AV := if e = 0 then .tup [.sl true 6 (l.map dlA), .int 0] else .tup [.nil, .int e]
structure DlsOk (l : List Dl) : Prop where
  len : l.length ≤ 20
  ok : ∀ d ∈ l, DlOk d
  one : ∀ (i : Nat) (h : i < l.length), ¬ (0 ≤ fD (l.take i) l[i].1 l[i].2.2.1)
theorem ofR_ok {l : List Dl} : ∀ (m k : Nat), k + m = l.length → ofR l m k = 0 → ∀ (i : Nat) (h : i < l.length), k ≤ i → DlOk l[i] ∧ ¬ (0 ≤ fD (l.take i) l[i].1 l[i].2.2.1)
  | 0, k, hk, _, i, h, hi => absurd h (by omega)
  | m + 1, k, hk, h0, i, h, hi => by
    have hkl : k < l.length := by omega
    have := ofR_step hkl
    rw [show l.length - k = m + 1 by omega, h0] at this
    by_cases c1 : dlE l[k] ≠ 0
    · rw [if_pos c1] at this; exact absurd this.symm c1
    · rw [if_neg c1] at this
      by_cases c2 : 0 ≤ fD (l.take k) l[k].1 l[k].2.2.1
      · rw [if_pos c2] at this; cases this
      · rw [if_neg c2] at this
        by_cases e : i = k
        · subst e; exact ⟨dlE_ok (Classical.not_not.1 c1), c2⟩
        · exact ofR_ok m (k + 1) (by omega) (by rw [show m = l.length - (k + 1) by omega]; exact this.symm) i h (by omega)
theorem ofE_ok {l : List Dl} (h : ofE l = 0) : DlsOk l := by
  unfold ofE at h
  by_cases c : 20 < l.length
  · rw [if_pos c] at h; cases h
  rw [if_neg c] at h
  have := ofR_ok l.length 0 (by omega) h
  exact ⟨by omega, fun d hd => by
    obtain ⟨i, hi, rfl⟩ := List.mem_iff_getElem.1 hd
    exact (this i hi (Nat.zero_le _)).1, fun i hi => (this i hi (Nat.zero_le _)).2⟩
theorem ofR_range {l : List Dl} : ∀ (m k : Nat), 0 ≤ ofR l m k ∧ ofR l m k ≤ 7
  | 0, k => by simp [ofR]
  | m + 1, k => by
    have := ofR_range (l := l) m (k + 1)
    have := dlE_range (l.getD k d0)
    unfold ofR
    repeat' split
    all_goals omega
theorem ofE_range (l : List Dl) : 0 ≤ ofE l ∧ ofE l ≤ 7 := by
  have := ofR_range (l := l) l.length 0
  unfold ofE; split <;> omega
theorem fD_range (l : List Dl) (s : Str) (n : Int) : -1 ≤ fD l s n ∧ fD l s n < l.length := by
  have := fidx_range (p := tD s n) (l := l) (k := 0)
  rw [Nat.zero_add] at this; exact this
def adE (l : List Dl) (d : Dl) : Int :=
  if ofE l ≠ 0 then ofE l else if dlE d ≠ 0 then dlE d
  else if 0 ≤ fD l d.1 d.2.2.1 then (if d.2.2.2.2.1 ≤ (l.getD (fD l d.1 d.2.2.1).toNat d0).2.2.2.2.1 then 7 else 0)
  else if 20 ≤ l.length then 8 else 0
def adM (l : List Dl) (d : Dl) : List Dl := if 0 ≤ fD l d.1 d.2.2.1 then l.set (fD l d.1 d.2.2.1).toNat d else l ++ [d]
theorem getDl_at {l : List Dl} {i : Nat} {a : Dl} (h : l[i]? = some a) : l.getD i d0 = a := by rw [List.getD_eq_getElem?_getD, h]; rfl
theorem fD_at {l : List Dl} {s : Str} {n : Int} (h : 0 ≤ fD l s n) : ∃ i : Nat, ∃ (h : i < l.length), fD l s n = (i : Int) ∧ tD s n l[i] = true := by
  obtain ⟨i, hi, e1, e2⟩ := fidx_at (p := tD s n) (k := 0) h
  exact ⟨i, hi, by unfold fD; rw [e1, Nat.zero_add], e2⟩
theorem add_spec (l : List Dl) (d : Dl) (hL : DlL l) (h1 : d.1.length ≤ 9223372036854775807) (h2 : d.2.1.length ≤ 9223372036854775807) : FnSpec Sy.P 28 [.sl false 6 (l.map dlA), dlA d] [.sl false 6 (l.map dlA), dlA d] (resD (adM l d) (adE l d)) := by
  have hC := qcheck_spec l hL
  have hR := right_spec d h1 h2
  have hCr := ofE_range l
  have hRr := dlE_range d
  have hF := findD_spec l d.1 d.2.2.1 hL.len
  unfold adE resD adM
  by_cases c1 : ofE l = 0
  · have hok := ofE_ok c1
    rw [c1] at hC
    rw [if_neg (not_not_intro c1)]
    by_cases c2 : dlE d = 0
    · have hdk := dlE_ok c2
      rw [c2] at hR
      rw [if_neg (not_not_intro c2)]
      have hl20 := hok.len
      have hCl := cloneDl_spec l (by omega)
      by_cases c3 : 0 ≤ fD l d.1 d.2.2.1
      · rw [if_pos c3, if_pos c3]
        obtain ⟨i, hi, e1, n1⟩ := fD_at c3
        have ga : l[i]? = some l[i] := List.getElem?_eq_getElem hi
        rw [e1] at hF ⊢
        rw [Int.toNat_natCast, getDl_at ga]
        generalize l[i] = a at *
        by_cases c4 : d.2.2.2.2.1 ≤ a.2.2.2.2.1
        · rw [if_pos c4, if_neg (by decide)]
          refine FnSpec.enter (S := Sy) 0 Tryz.func28 rfl rfl rfl Tryz.ntmps28 rfl rfl rfl rfl fun v0 => ?_
          (repeat' (first | refine w9x ?_ | refine w9p (hC) ?_ | refine w9p (hR) ?_ | refine w9p (hF) ?_ | (refine w9c ?_ ?_ <;> intro _ <;> try exact w9o) | (refine w9d ?_ ?_ <;> intro _ <;> try exact w9s) | (refine w9q ?_; intro bnil hbnil)))
          all_goals first | (exfalso; omega) | exact .mk rfl rfl rfl
        · rw [if_neg c4, if_pos rfl]
          refine FnSpec.enter (S := Sy) 0 Tryz.func28 rfl rfl rfl Tryz.ntmps28 rfl rfl rfl rfl fun v0 => ?_
          (repeat' (first | ((with_reducible apply J.eff); rfl; (exact e_stM (x := d) rfl rfl rfl rfl rfl rfl)) | refine w9x ?_ | refine w9p (hC) ?_ | refine w9p (hR) ?_ | refine w9p (hF) ?_ | refine w9p (hCl) ?_ | (refine w9c ?_ ?_ <;> intro _ <;> try exact w9o) | (refine w9d ?_ ?_ <;> intro _ <;> try exact w9s) | (refine w9q ?_; intro bnil hbnil)))
          all_goals first | (exfalso; omega) | exact .mk rfl rfl rfl
      · rw [if_neg c3, if_neg c3]
        have hfr := fD_range l d.1 d.2.2.1
        by_cases c5 : 20 ≤ l.length
        · rw [if_pos c5, if_neg (by decide)]
          refine FnSpec.enter (S := Sy) 0 Tryz.func28 rfl rfl rfl Tryz.ntmps28 rfl rfl rfl rfl fun v0 => ?_
          (repeat' (first | refine w9x ?_ | refine w9p (hC) ?_ | refine w9p (hR) ?_ | refine w9p (hF) ?_ | (refine w9c ?_ ?_ <;> intro _ <;> try exact w9o) | (refine w9d ?_ ?_ <;> intro _ <;> try exact w9s) | (refine w9q ?_; intro bnil hbnil)))
          all_goals first | (exfalso; omega) | exact .mk rfl rfl rfl
        · rw [if_neg c5, if_pos rfl]
          have hmap0 : TV.av (AV.sl true 6 (l.map dlA ++ [dlA d])) = TV.av (AV.sl true 6 ((l ++ [d]).map dlA)) := by rw [List.map_append]; rfl
          refine FnSpec.enter (S := Sy) 0 Tryz.func28 rfl rfl rfl Tryz.ntmps28 rfl rfl rfl rfl fun v0 => ?_
          (repeat' (first | refine w9z ?_ | refine w9p (hC) ?_ | refine w9p (hR) ?_ | refine w9p (hF) ?_ | (refine w9c ?_ ?_ <;> intro _ <;> try exact w9o) | (refine w9d ?_ ?_ <;> intro _ <;> try exact w9s) | (refine w9q ?_; intro bnil hbnil)))
          all_goals first | (exfalso; omega) | skip
          refine CW.cut [(4, .av (.sl true 6 ((l ++ [d]).map dlA))), (5, .av (.int (0)))] ?_ ?_
          · refine CW.reg0 7 rfl [false, false, false, false, false, false, false] (by kernel_rfl) rfl ?_
            apply JA.take (i := 0); rfl; (first | exact .inl rfl | exact .inr rfl); rfl; kernel_rfl; exact FM.st
            apply JA.two (i := 1) (j := 2); kernel_rfl; rfl; rfl
            · (repeat' (first | ((with_reducible apply J.step); rfl; exact FM.st) | ((with_reducible apply J.eff); rfl; exact FM.ef) | ((with_reducible apply J.callP (hCl)); rfl; rfl; (repeat' (first | exact ArgsOk.nil | apply ArgsOk.cons | exact ArgOk.pl rfl rfl | exact ArgOk.br rfl AV.noConfusion (by first | rfl | exact sh_int | exact sh_rows | exact sh_rowsO | exact sh_box | exact sh_map (fun _ => rfl)))); (first | exact (fun _ => NoSh.int) | exact (fun h => Bool.noConfusion h))) | with_reducible refine J.nil ?_))
              apply JA.one (i := 2); kernel_rfl; rfl
              (repeat' (first | ((with_reducible apply J.step); rfl; exact FM.st) | ((with_reducible apply J.eff); rfl; exact FM.ef) | ((with_reducible apply J.callP (hCl)); rfl; rfl; (repeat' (first | exact ArgsOk.nil | apply ArgsOk.cons | exact ArgOk.pl rfl rfl | exact ArgOk.br rfl AV.noConfusion (by first | rfl | exact sh_int | exact sh_rows | exact sh_rowsO | exact sh_box | exact sh_map (fun _ => rfl)))); (first | exact (fun _ => NoSh.int) | exact (fun h => Bool.noConfusion h))) | with_reducible refine J.nil ?_))
              apply JA.one (i := 3); kernel_rfl; rfl
              (repeat' (first | ((with_reducible apply J.step); rfl; exact FM.st) | ((with_reducible apply J.eff); rfl; exact FM.ef) | ((with_reducible apply J.callP (hCl)); rfl; rfl; (repeat' (first | exact ArgsOk.nil | apply ArgsOk.cons | exact ArgOk.pl rfl rfl | exact ArgOk.br rfl AV.noConfusion (by first | rfl | exact sh_int | exact sh_rows | exact sh_rowsO | exact sh_box | exact sh_map (fun _ => rfl)))); (first | exact (fun _ => NoSh.int) | exact (fun h => Bool.noConfusion h))) | with_reducible refine J.nil ?_))
              apply JA.one (i := 4); kernel_rfl; rfl
              (repeat' (first | ((with_reducible apply J.step); rfl; exact FM.st) | ((with_reducible apply J.eff); rfl; exact FM.ef) | ((with_reducible apply J.callP (hCl)); rfl; rfl; (repeat' (first | exact ArgsOk.nil | apply ArgsOk.cons | exact ArgOk.pl rfl rfl | exact ArgOk.br rfl AV.noConfusion (by first | rfl | exact sh_int | exact sh_rows | exact sh_rowsO | exact sh_box | exact sh_map (fun _ => rfl)))); (first | exact (fun _ => NoSh.int) | exact (fun h => Bool.noConfusion h))) | with_reducible refine J.nil ?_))
              apply JA.take (i := 5); rfl; (first | exact .inl rfl | exact .inr rfl); rfl; kernel_rfl; exact FM.st
              apply JA.take (i := 6); rfl; (first | exact .inl rfl | exact .inr rfl); rfl; kernel_rfl; exact FM.st
              refine JA.done (by kernel_rfl) ?_
              exact ⟨rfl, by (repeat' (first | exact trivial | rfl | refine And.intro ?_ ?_ | exact int_congr (by omega) | exact int_congr (by dsimp only; omega) | exact ints_congr (by first | assumption | exact Eq.symm (by assumption)) | exact int_congr (by assumption) | exact bool_congr (by first | assumption | exact Eq.symm (by assumption)) | exact map_congr' (by first | assumption | exact Eq.symm (by assumption)) | exact hmap0))⟩
            · (repeat' (first | ((with_reducible apply J.step); rfl; exact FM.st) | ((with_reducible apply J.eff); rfl; exact FM.ef) | ((with_reducible apply J.callP (hCl)); rfl; rfl; (repeat' (first | exact ArgsOk.nil | apply ArgsOk.cons | exact ArgOk.pl rfl rfl | exact ArgOk.br rfl AV.noConfusion (by first | rfl | exact sh_int | exact sh_rows | exact sh_rowsO | exact sh_box | exact sh_map (fun _ => rfl)))); (first | exact (fun _ => NoSh.int) | exact (fun h => Bool.noConfusion h))) | with_reducible refine J.nil ?_))
              apply JA.two (i := 1) (j := 3); kernel_rfl; rfl; rfl
              · (repeat' (first | ((with_reducible apply J.step); rfl; exact FM.st) | ((with_reducible apply J.eff); rfl; exact FM.ef) | ((with_reducible apply J.callP (hCl)); rfl; rfl; (repeat' (first | exact ArgsOk.nil | apply ArgsOk.cons | exact ArgOk.pl rfl rfl | exact ArgOk.br rfl AV.noConfusion (by first | rfl | exact sh_int | exact sh_rows | exact sh_rowsO | exact sh_box | exact sh_map (fun _ => rfl)))); (first | exact (fun _ => NoSh.int) | exact (fun h => Bool.noConfusion h))) | with_reducible refine J.nil ?_))
                apply JA.one (i := 3); kernel_rfl; rfl
                (repeat' (first | ((with_reducible apply J.step); rfl; exact FM.st) | ((with_reducible apply J.eff); rfl; exact FM.ef) | ((with_reducible apply J.callP (hCl)); rfl; rfl; (repeat' (first | exact ArgsOk.nil | apply ArgsOk.cons | exact ArgOk.pl rfl rfl | exact ArgOk.br rfl AV.noConfusion (by first | rfl | exact sh_int | exact sh_rows | exact sh_rowsO | exact sh_box | exact sh_map (fun _ => rfl)))); (first | exact (fun _ => NoSh.int) | exact (fun h => Bool.noConfusion h))) | with_reducible refine J.nil ?_))
                apply JA.one (i := 4); kernel_rfl; rfl
                (repeat' (first | ((with_reducible apply J.step); rfl; exact FM.st) | ((with_reducible apply J.eff); rfl; exact FM.ef) | ((with_reducible apply J.callP (hCl)); rfl; rfl; (repeat' (first | exact ArgsOk.nil | apply ArgsOk.cons | exact ArgOk.pl rfl rfl | exact ArgOk.br rfl AV.noConfusion (by first | rfl | exact sh_int | exact sh_rows | exact sh_rowsO | exact sh_box | exact sh_map (fun _ => rfl)))); (first | exact (fun _ => NoSh.int) | exact (fun h => Bool.noConfusion h))) | with_reducible refine J.nil ?_))
                apply JA.take (i := 5); rfl; (first | exact .inl rfl | exact .inr rfl); rfl; kernel_rfl; exact FM.st
                apply JA.take (i := 6); rfl; (first | exact .inl rfl | exact .inr rfl); rfl; kernel_rfl; exact FM.st
                refine JA.done (by kernel_rfl) ?_
                exact ⟨rfl, by (repeat' (first | exact trivial | rfl | refine And.intro ?_ ?_ | exact int_congr (by omega) | exact int_congr (by dsimp only; omega) | exact ints_congr (by first | assumption | exact Eq.symm (by assumption)) | exact int_congr (by assumption) | exact bool_congr (by first | assumption | exact Eq.symm (by assumption)) | exact map_congr' (by first | assumption | exact Eq.symm (by assumption)) | exact hmap0))⟩
              · (repeat' (first | ((with_reducible apply J.step); rfl; exact FM.st) | ((with_reducible apply J.eff); rfl; exact FM.ef) | ((with_reducible apply J.callP (hCl)); rfl; rfl; (repeat' (first | exact ArgsOk.nil | apply ArgsOk.cons | exact ArgOk.pl rfl rfl | exact ArgOk.br rfl AV.noConfusion (by first | rfl | exact sh_int | exact sh_rows | exact sh_rowsO | exact sh_box | exact sh_map (fun _ => rfl)))); (first | exact (fun _ => NoSh.int) | exact (fun h => Bool.noConfusion h))) | with_reducible refine J.nil ?_))
                apply JA.one (i := 1); kernel_rfl; rfl
                (repeat' (first | ((with_reducible apply J.step); rfl; exact FM.st) | ((with_reducible apply J.eff); rfl; exact FM.ef) | ((with_reducible apply J.callP (hCl)); rfl; rfl; (repeat' (first | exact ArgsOk.nil | apply ArgsOk.cons | exact ArgOk.pl rfl rfl | exact ArgOk.br rfl AV.noConfusion (by first | rfl | exact sh_int | exact sh_rows | exact sh_rowsO | exact sh_box | exact sh_map (fun _ => rfl)))); (first | exact (fun _ => NoSh.int) | exact (fun h => Bool.noConfusion h))) | with_reducible refine J.nil ?_))
                apply JA.one (i := 4); kernel_rfl; rfl
                (repeat' (first | ((with_reducible apply J.step); rfl; exact FM.st) | ((with_reducible apply J.eff); rfl; exact FM.ef) | ((with_reducible apply J.callP (hCl)); rfl; rfl; (repeat' (first | exact ArgsOk.nil | apply ArgsOk.cons | exact ArgOk.pl rfl rfl | exact ArgOk.br rfl AV.noConfusion (by first | rfl | exact sh_int | exact sh_rows | exact sh_rowsO | exact sh_box | exact sh_map (fun _ => rfl)))); (first | exact (fun _ => NoSh.int) | exact (fun h => Bool.noConfusion h))) | with_reducible refine J.nil ?_))
                apply JA.take (i := 5); rfl; (first | exact .inl rfl | exact .inr rfl); rfl; kernel_rfl; exact FM.st
                apply JA.take (i := 6); rfl; (first | exact .inl rfl | exact .inr rfl); rfl; kernel_rfl; exact FM.st
                refine JA.done (by kernel_rfl) ?_
                exact ⟨rfl, by (repeat' (first | exact trivial | rfl | refine And.intro ?_ ?_ | exact int_congr (by omega) | exact int_congr (by dsimp only; omega) | exact ints_congr (by first | assumption | exact Eq.symm (by assumption)) | exact int_congr (by assumption) | exact bool_congr (by first | assumption | exact Eq.symm (by assumption)) | exact map_congr' (by first | assumption | exact Eq.symm (by assumption)) | exact hmap0))⟩
          (repeat' (first | refine w9x ?_ | (refine w9c ?_ ?_ <;> intro _ <;> try exact w9o) | (refine w9d ?_ ?_ <;> intro _ <;> try exact w9s) | (refine w9q ?_; intro bnil hbnil)))
          all_goals first | (exfalso; omega) | exact .mk rfl rfl rfl
    · rw [if_pos c2, if_neg c2]
      generalize dlE d = e at *
      refine FnSpec.enter (S := Sy) 0 Tryz.func28 rfl rfl rfl Tryz.ntmps28 rfl rfl rfl rfl fun v0 => ?_
      (repeat' (first | refine w9x ?_ | refine w9p (hC) ?_ | refine w9p (hR) ?_ | (refine w9c ?_ ?_ <;> intro _ <;> try exact w9o) | (refine w9d ?_ ?_ <;> intro _ <;> try exact w9s) | (refine w9q ?_; intro bnil hbnil)))
      all_goals first | (exfalso; omega) | exact .mk rfl rfl rfl
  · rw [if_pos c1, if_neg c1]
    generalize ofE l = e at *
    refine FnSpec.enter (S := Sy) 0 Tryz.func28 rfl rfl rfl Tryz.ntmps28 rfl rfl rfl rfl fun v0 => ?_
    (repeat' (first | refine w9x ?_ | refine w9p (hC) ?_ | refine w9p (hR) ?_ | (refine w9c ?_ ?_ <;> intro _ <;> try exact w9o) | (refine w9d ?_ ?_ <;> intro _ <;> try exact w9s) | (refine w9q ?_; intro bnil hbnil)))
    all_goals first | (exfalso; omega) | exact .mk rfl rfl rfl
end Go.Proofs.YtkkcnppgcnmikaaGreatDoor
