/- Offers: the reference's Add; Drop of both. -/
import Derived.Test.YtkkcnppgcnmikaaGreatDoorHum
namespace Go.Proofs.YtkkcnppgcnmikaaGreatDoor
open Go FM Go.Proofs
set_option maxRecDepth 10000
set_option maxHeartbeats 3200000
set_option linter.all false
theorem addOf_spec (l : List Dl) (d : Dl) (hL : DlL l) (h1 : d.1.length ≤ 9223372036854775807) (h2 : d.2.1.length ≤ 9223372036854775807) : FnSpec Sy.P 39 [.sl false 6 (l.map dlA), dlA d] [.sl false 6 (l.map dlA), dlA d] (resD (adM l d) (adE l d)) := by
  have hC := offerErr_spec l hL
  have hR := dealErr_spec d h1 h2
  have hCr := ofE_range l
  have hRr := dlE_range d
  have hF := offerOf_spec l d.1 d.2.2.1 hL.len
  unfold adE resD adM
  by_cases c1 : ofE l = 0
  · have hok := ofE_ok c1
    rw [c1] at hC
    rw [if_neg (not_not_intro c1)]
    by_cases c2 : dlE d = 0
    · have hdk := dlE_ok c2
      rw [c2] at hR
      rw [if_neg (not_not_intro c2)]
      have hl20 := hok.len
      have hCl := cloneDl_spec l (by omega)
      by_cases c3 : 0 ≤ fD l d.1 d.2.2.1
      · rw [if_pos c3, if_pos c3]
        obtain ⟨i, hi, e1, n1⟩ := fD_at c3
        have ga : l[i]? = some l[i] := List.getElem?_eq_getElem hi
        rw [e1] at hF ⊢
        rw [Int.toNat_natCast, getDl_at ga]
        generalize l[i] = a at *
        by_cases c4 : d.2.2.2.2.1 ≤ a.2.2.2.2.1
        · rw [if_pos c4, if_neg (by decide)]
          refine FnSpec.enter (S := Sy) 0 Tryz.func39 rfl rfl rfl Tryz.ntmps39 rfl rfl rfl rfl fun v0 => ?_
          (repeat' (first | refine w9x ?_ | refine w9p (hC) ?_ | refine w9p (hR) ?_ | refine w9p (hF) ?_ | (refine w9c ?_ ?_ <;> intro _ <;> try exact w9o) | (refine w9d ?_ ?_ <;> intro _ <;> try exact w9s) | (refine w9q ?_; intro bnil hbnil)))
          all_goals first | (exfalso; omega) | exact .mk rfl rfl rfl
        · rw [if_neg c4, if_pos rfl]
          refine FnSpec.enter (S := Sy) 0 Tryz.func39 rfl rfl rfl Tryz.ntmps39 rfl rfl rfl rfl fun v0 => ?_
          (repeat' (first | ((with_reducible apply J.eff); rfl; (exact e_stM (x := d) rfl rfl rfl rfl rfl rfl)) | refine w9x ?_ | refine w9p (hC) ?_ | refine w9p (hR) ?_ | refine w9p (hF) ?_ | refine w9p (hCl) ?_ | (refine w9c ?_ ?_ <;> intro _ <;> try exact w9o) | (refine w9d ?_ ?_ <;> intro _ <;> try exact w9s) | (refine w9q ?_; intro bnil hbnil)))
          all_goals first | (exfalso; omega) | exact .mk rfl rfl rfl
      · rw [if_neg c3, if_neg c3]
        have hfr := fD_range l d.1 d.2.2.1
        by_cases c5 : 20 ≤ l.length
        · rw [if_pos c5, if_neg (by decide)]
          refine FnSpec.enter (S := Sy) 0 Tryz.func39 rfl rfl rfl Tryz.ntmps39 rfl rfl rfl rfl fun v0 => ?_
          (repeat' (first | refine w9x ?_ | refine w9p (hC) ?_ | refine w9p (hR) ?_ | refine w9p (hF) ?_ | (refine w9c ?_ ?_ <;> intro _ <;> try exact w9o) | (refine w9d ?_ ?_ <;> intro _ <;> try exact w9s) | (refine w9q ?_; intro bnil hbnil)))
          all_goals first | (exfalso; omega) | exact .mk rfl rfl rfl
        · rw [if_neg c5, if_pos rfl]
          have hmap0 : TV.av (AV.sl true 6 (l.map dlA ++ [dlA d])) = TV.av (AV.sl true 6 ((l ++ [d]).map dlA)) := by rw [List.map_append]; rfl
          refine FnSpec.enter (S := Sy) 0 Tryz.func39 rfl rfl rfl Tryz.ntmps39 rfl rfl rfl rfl fun v0 => ?_
          (repeat' (first | refine w9y ?_ | refine w9p (hC) ?_ | refine w9p (hR) ?_ | refine w9p (hF) ?_ | (refine w9c ?_ ?_ <;> intro _ <;> try exact w9o) | (refine w9d ?_ ?_ <;> intro _ <;> try exact w9s) | (refine w9q ?_; intro bnil hbnil)))
          all_goals first | (exfalso; omega) | skip
          refine CW.cut [(4, .av (.sl true 6 ((l ++ [d]).map dlA))), (5, .av (.int (0)))] ?_ ?_
          · refine CW.reg0 7 rfl [false, false, false, false, false, false, false] (by kernel_rfl) rfl ?_
            apply JA.take (i := 0); rfl; (first | exact .inl rfl | exact .inr rfl); rfl; kernel_rfl; exact FM.st
            apply JA.two (i := 1) (j := 2); kernel_rfl; rfl; rfl
            · (repeat' (first | ((with_reducible apply J.step); rfl; exact FM.st) | ((with_reducible apply J.eff); rfl; exact FM.ef) | ((with_reducible apply J.callP (hCl)); rfl; rfl; (repeat' (first | exact ArgsOk.nil | apply ArgsOk.cons | exact ArgOk.pl rfl rfl | exact ArgOk.br rfl AV.noConfusion (by first | rfl | exact sh_int | exact sh_rows | exact sh_rowsO | exact sh_box | exact sh_map (fun _ => rfl)))); (first | exact (fun _ => NoSh.int) | exact (fun h => Bool.noConfusion h))) | with_reducible refine J.nil ?_))
              apply JA.one (i := 2); kernel_rfl; rfl
              (repeat' (first | ((with_reducible apply J.step); rfl; exact FM.st) | ((with_reducible apply J.eff); rfl; exact FM.ef) | ((with_reducible apply J.callP (hCl)); rfl; rfl; (repeat' (first | exact ArgsOk.nil | apply ArgsOk.cons | exact ArgOk.pl rfl rfl | exact ArgOk.br rfl AV.noConfusion (by first | rfl | exact sh_int | exact sh_rows | exact sh_rowsO | exact sh_box | exact sh_map (fun _ => rfl)))); (first | exact (fun _ => NoSh.int) | exact (fun h => Bool.noConfusion h))) | with_reducible refine J.nil ?_))
              apply JA.one (i := 3); kernel_rfl; rfl
              (repeat' (first | ((with_reducible apply J.step); rfl; exact FM.st) | ((with_reducible apply J.eff); rfl; exact FM.ef) | ((with_reducible apply J.callP (hCl)); rfl; rfl; (repeat' (first | exact ArgsOk.nil | apply ArgsOk.cons | exact ArgOk.pl rfl rfl | exact ArgOk.br rfl AV.noConfusion (by first | rfl | exact sh_int | exact sh_rows | exact sh_rowsO | exact sh_box | exact sh_map (fun _ => rfl)))); (first | exact (fun _ => NoSh.int) | exact (fun h => Bool.noConfusion h))) | with_reducible refine J.nil ?_))
              apply JA.one (i := 4); kernel_rfl; rfl
              (repeat' (first | ((with_reducible apply J.step); rfl; exact FM.st) | ((with_reducible apply J.eff); rfl; exact FM.ef) | ((with_reducible apply J.callP (hCl)); rfl; rfl; (repeat' (first | exact ArgsOk.nil | apply ArgsOk.cons | exact ArgOk.pl rfl rfl | exact ArgOk.br rfl AV.noConfusion (by first | rfl | exact sh_int | exact sh_rows | exact sh_rowsO | exact sh_box | exact sh_map (fun _ => rfl)))); (first | exact (fun _ => NoSh.int) | exact (fun h => Bool.noConfusion h))) | with_reducible refine J.nil ?_))
              apply JA.take (i := 5); rfl; (first | exact .inl rfl | exact .inr rfl); rfl; kernel_rfl; exact FM.st
              apply JA.take (i := 6); rfl; (first | exact .inl rfl | exact .inr rfl); rfl; kernel_rfl; exact FM.st
              refine JA.done (by kernel_rfl) ?_
              exact ⟨rfl, by (repeat' (first | exact trivial | rfl | refine And.intro ?_ ?_ | exact int_congr (by omega) | exact int_congr (by dsimp only; omega) | exact ints_congr (by first | assumption | exact Eq.symm (by assumption)) | exact int_congr (by assumption) | exact bool_congr (by first | assumption | exact Eq.symm (by assumption)) | exact map_congr' (by first | assumption | exact Eq.symm (by assumption)) | exact hmap0))⟩
            · (repeat' (first | ((with_reducible apply J.step); rfl; exact FM.st) | ((with_reducible apply J.eff); rfl; exact FM.ef) | ((with_reducible apply J.callP (hCl)); rfl; rfl; (repeat' (first | exact ArgsOk.nil | apply ArgsOk.cons | exact ArgOk.pl rfl rfl | exact ArgOk.br rfl AV.noConfusion (by first | rfl | exact sh_int | exact sh_rows | exact sh_rowsO | exact sh_box | exact sh_map (fun _ => rfl)))); (first | exact (fun _ => NoSh.int) | exact (fun h => Bool.noConfusion h))) | with_reducible refine J.nil ?_))
              apply JA.two (i := 1) (j := 3); kernel_rfl; rfl; rfl
              · (repeat' (first | ((with_reducible apply J.step); rfl; exact FM.st) | ((with_reducible apply J.eff); rfl; exact FM.ef) | ((with_reducible apply J.callP (hCl)); rfl; rfl; (repeat' (first | exact ArgsOk.nil | apply ArgsOk.cons | exact ArgOk.pl rfl rfl | exact ArgOk.br rfl AV.noConfusion (by first | rfl | exact sh_int | exact sh_rows | exact sh_rowsO | exact sh_box | exact sh_map (fun _ => rfl)))); (first | exact (fun _ => NoSh.int) | exact (fun h => Bool.noConfusion h))) | with_reducible refine J.nil ?_))
                apply JA.one (i := 3); kernel_rfl; rfl
                (repeat' (first | ((with_reducible apply J.step); rfl; exact FM.st) | ((with_reducible apply J.eff); rfl; exact FM.ef) | ((with_reducible apply J.callP (hCl)); rfl; rfl; (repeat' (first | exact ArgsOk.nil | apply ArgsOk.cons | exact ArgOk.pl rfl rfl | exact ArgOk.br rfl AV.noConfusion (by first | rfl | exact sh_int | exact sh_rows | exact sh_rowsO | exact sh_box | exact sh_map (fun _ => rfl)))); (first | exact (fun _ => NoSh.int) | exact (fun h => Bool.noConfusion h))) | with_reducible refine J.nil ?_))
                apply JA.one (i := 4); kernel_rfl; rfl
                (repeat' (first | ((with_reducible apply J.step); rfl; exact FM.st) | ((with_reducible apply J.eff); rfl; exact FM.ef) | ((with_reducible apply J.callP (hCl)); rfl; rfl; (repeat' (first | exact ArgsOk.nil | apply ArgsOk.cons | exact ArgOk.pl rfl rfl | exact ArgOk.br rfl AV.noConfusion (by first | rfl | exact sh_int | exact sh_rows | exact sh_rowsO | exact sh_box | exact sh_map (fun _ => rfl)))); (first | exact (fun _ => NoSh.int) | exact (fun h => Bool.noConfusion h))) | with_reducible refine J.nil ?_))
                apply JA.take (i := 5); rfl; (first | exact .inl rfl | exact .inr rfl); rfl; kernel_rfl; exact FM.st
                apply JA.take (i := 6); rfl; (first | exact .inl rfl | exact .inr rfl); rfl; kernel_rfl; exact FM.st
                refine JA.done (by kernel_rfl) ?_
                exact ⟨rfl, by (repeat' (first | exact trivial | rfl | refine And.intro ?_ ?_ | exact int_congr (by omega) | exact int_congr (by dsimp only; omega) | exact ints_congr (by first | assumption | exact Eq.symm (by assumption)) | exact int_congr (by assumption) | exact bool_congr (by first | assumption | exact Eq.symm (by assumption)) | exact map_congr' (by first | assumption | exact Eq.symm (by assumption)) | exact hmap0))⟩
              · (repeat' (first | ((with_reducible apply J.step); rfl; exact FM.st) | ((with_reducible apply J.eff); rfl; exact FM.ef) | ((with_reducible apply J.callP (hCl)); rfl; rfl; (repeat' (first | exact ArgsOk.nil | apply ArgsOk.cons | exact ArgOk.pl rfl rfl | exact ArgOk.br rfl AV.noConfusion (by first | rfl | exact sh_int | exact sh_rows | exact sh_rowsO | exact sh_box | exact sh_map (fun _ => rfl)))); (first | exact (fun _ => NoSh.int) | exact (fun h => Bool.noConfusion h))) | with_reducible refine J.nil ?_))
                apply JA.one (i := 1); kernel_rfl; rfl
                (repeat' (first | ((with_reducible apply J.step); rfl; exact FM.st) | ((with_reducible apply J.eff); rfl; exact FM.ef) | ((with_reducible apply J.callP (hCl)); rfl; rfl; (repeat' (first | exact ArgsOk.nil | apply ArgsOk.cons | exact ArgOk.pl rfl rfl | exact ArgOk.br rfl AV.noConfusion (by first | rfl | exact sh_int | exact sh_rows | exact sh_rowsO | exact sh_box | exact sh_map (fun _ => rfl)))); (first | exact (fun _ => NoSh.int) | exact (fun h => Bool.noConfusion h))) | with_reducible refine J.nil ?_))
                apply JA.one (i := 4); kernel_rfl; rfl
                (repeat' (first | ((with_reducible apply J.step); rfl; exact FM.st) | ((with_reducible apply J.eff); rfl; exact FM.ef) | ((with_reducible apply J.callP (hCl)); rfl; rfl; (repeat' (first | exact ArgsOk.nil | apply ArgsOk.cons | exact ArgOk.pl rfl rfl | exact ArgOk.br rfl AV.noConfusion (by first | rfl | exact sh_int | exact sh_rows | exact sh_rowsO | exact sh_box | exact sh_map (fun _ => rfl)))); (first | exact (fun _ => NoSh.int) | exact (fun h => Bool.noConfusion h))) | with_reducible refine J.nil ?_))
                apply JA.take (i := 5); rfl; (first | exact .inl rfl | exact .inr rfl); rfl; kernel_rfl; exact FM.st
                apply JA.take (i := 6); rfl; (first | exact .inl rfl | exact .inr rfl); rfl; kernel_rfl; exact FM.st
                refine JA.done (by kernel_rfl) ?_
                exact ⟨rfl, by (repeat' (first | exact trivial | rfl | refine And.intro ?_ ?_ | exact int_congr (by omega) | exact int_congr (by dsimp only; omega) | exact ints_congr (by first | assumption | exact Eq.symm (by assumption)) | exact int_congr (by assumption) | exact bool_congr (by first | assumption | exact Eq.symm (by assumption)) | exact map_congr' (by first | assumption | exact Eq.symm (by assumption)) | exact hmap0))⟩
          (repeat' (first | refine w9x ?_ | (refine w9c ?_ ?_ <;> intro _ <;> try exact w9o) | (refine w9d ?_ ?_ <;> intro _ <;> try exact w9s) | (refine w9q ?_; intro bnil hbnil)))
          all_goals first | (exfalso; omega) | exact .mk rfl rfl rfl
    · rw [if_pos c2, if_neg c2]
      generalize dlE d = e at *
      refine FnSpec.enter (S := Sy) 0 Tryz.func39 rfl rfl rfl Tryz.ntmps39 rfl rfl rfl rfl fun v0 => ?_
      (repeat' (first | refine w9x ?_ | refine w9p (hC) ?_ | refine w9p (hR) ?_ | (refine w9c ?_ ?_ <;> intro _ <;> try exact w9o) | (refine w9d ?_ ?_ <;> intro _ <;> try exact w9s) | (refine w9q ?_; intro bnil hbnil)))
      all_goals first | (exfalso; omega) | exact .mk rfl rfl rfl
  · rw [if_pos c1, if_neg c1]
    generalize ofE l = e at *
    refine FnSpec.enter (S := Sy) 0 Tryz.func39 rfl rfl rfl Tryz.ntmps39 rfl rfl rfl rfl fun v0 => ?_
    (repeat' (first | refine w9x ?_ | refine w9p (hC) ?_ | refine w9p (hR) ?_ | (refine w9c ?_ ?_ <;> intro _ <;> try exact w9o) | (refine w9d ?_ ?_ <;> intro _ <;> try exact w9s) | (refine w9q ?_; intro bnil hbnil)))
    all_goals first | (exfalso; omega) | exact .mk rfl rfl rfl
def drE (l : List Dl) (s : Str) (n : Int) : Int := if ofE l ≠ 0 then ofE l else if fD l s n < 0 then 4 else 0
def drM (l : List Dl) (s : Str) (n : Int) : List Dl := l.take (fD l s n).toNat ++ l.drop ((fD l s n).toNat + 1)
theorem drop_spec (l : List Dl) (s : Str) (n : Int) (hL : DlL l) : FnSpec Sy.P 34 [.sl false 6 (l.map dlA), .str s, .int n] [.sl false 6 (l.map dlA), .str s, .int n] (resD (drM l s n) (drE l s n)) := by
  have hC := qcheck_spec l hL
  have hCr := ofE_range l
  have hF := findD_spec l s n hL.len
  unfold drE resD drM
  by_cases c1 : ofE l = 0
  · have hok := ofE_ok c1
    rw [c1] at hC
    rw [if_neg (not_not_intro c1)]
    have hl20 := hok.len
    have hCl := cloneDl_spec l (by omega)
    by_cases c3 : fD l s n < 0
    · rw [if_pos c3, if_neg (by decide)]
      refine FnSpec.enter (S := Sy) 0 Tryz.func34 rfl rfl rfl Tryz.ntmps34 rfl rfl rfl rfl fun v0 => ?_
      (repeat' (first | refine w9x ?_ | refine w9p (hC) ?_ | refine w9p (hF) ?_ | (refine w9c ?_ ?_ <;> intro _ <;> try exact w9o) | (refine w9d ?_ ?_ <;> intro _ <;> try exact w9s) | (refine w9q ?_; intro bnil hbnil)))
      all_goals first | (exfalso; omega) | exact .mk rfl rfl rfl
    · rw [if_neg c3, if_pos rfl]
      obtain ⟨i, hi, e1, n1⟩ := fD_at (l := l) (s := s) (n := n) (by omega)
      rw [e1] at hF ⊢
      rw [Int.toNat_natCast]
      have hl3 : l.length ≤ 1000 := by omega
      refine FnSpec.enter (S := Sy) 0 Tryz.func34 rfl rfl rfl Tryz.ntmps34 rfl rfl rfl rfl fun v0 => ?_
      (repeat' (first | (refine delDJ (l := l) (k := i) rfl rfl rfl hi hl3 rfl rfl rfl ?_) | refine w9x ?_ | refine w9p (hC) ?_ | refine w9p (hF) ?_ | refine w9p (hCl) ?_ | (refine w9c ?_ ?_ <;> intro _ <;> try exact w9o) | (refine w9d ?_ ?_ <;> intro _ <;> try exact w9s) | (refine w9q ?_; intro bnil hbnil)))
      all_goals first | (exfalso; omega) | exact .mk rfl rfl rfl
  · rw [if_pos c1, if_neg c1]
    generalize ofE l = e at *
    refine FnSpec.enter (S := Sy) 0 Tryz.func34 rfl rfl rfl Tryz.ntmps34 rfl rfl rfl rfl fun v0 => ?_
    (repeat' (first | refine w9x ?_ | refine w9p (hC) ?_ | (refine w9c ?_ ?_ <;> intro _ <;> try exact w9o) | (refine w9d ?_ ?_ <;> intro _ <;> try exact w9s) | (refine w9q ?_; intro bnil hbnil)))
    all_goals first | (exfalso; omega) | exact .mk rfl rfl rfl
theorem dropOf_spec (l : List Dl) (s : Str) (n : Int) (hL : DlL l) : FnSpec Sy.P 47 [.sl false 6 (l.map dlA), .str s, .int n] [.sl false 6 (l.map dlA), .str s, .int n] (resD (drM l s n) (drE l s n)) := by
  have hC := offerErr_spec l hL
  have hCr := ofE_range l
  have hF := offerOf_spec l s n hL.len
  unfold drE resD drM
  by_cases c1 : ofE l = 0
  · have hok := ofE_ok c1
    rw [c1] at hC
    rw [if_neg (not_not_intro c1)]
    have hl20 := hok.len
    by_cases c3 : fD l s n < 0
    · rw [if_pos c3, if_neg (by decide)]
      refine FnSpec.enter (S := Sy) 0 Tryz.func47 rfl rfl rfl Tryz.ntmps47 rfl rfl rfl rfl fun v0 => ?_
      (repeat' (first | refine w9x ?_ | refine w9p (hC) ?_ | refine w9p (hF) ?_ | (refine w9c ?_ ?_ <;> intro _ <;> try exact w9o) | (refine w9d ?_ ?_ <;> intro _ <;> try exact w9s) | (refine w9q ?_; intro bnil hbnil)))
      all_goals first | (exfalso; omega) | exact .mk rfl rfl rfl
    · rw [if_neg c3, if_pos rfl]
      obtain ⟨i, hi, e1, n1⟩ := fD_at (l := l) (s := s) (n := n) (by omega)
      rw [e1] at hF ⊢
      rw [Int.toNat_natCast]
      have hCl := cloneDl_spec (l.take i) (by rw [List.length_take]; omega)
      refine FnSpec.enter (S := Sy) 0 Tryz.func47 rfl rfl rfl Tryz.ntmps47 rfl rfl rfl rfl fun v0 => ?_
      (repeat' (first | refine w9z ?_ | refine w9p (hC) ?_ | refine w9p (hF) ?_ | (refine w9c ?_ ?_ <;> intro _ <;> try exact w9o) | (refine w9d ?_ ?_ <;> intro _ <;> try exact w9s) | (refine w9q ?_; intro bnil hbnil)))
      all_goals first | (exfalso; omega) | skip
      refine CW.cut [(6, .av (.sl true 6 ((l.take i ++ l.drop (i + 1)).map dlA))), (7, .av (.int (0)))] ?_ ?_
      · refine CW.reg0 11 rfl [false, false, false, false, false, false, false, false, false, false, false] (by kernel_rfl) rfl ?_
        apply JA.take (i := 0); rfl; (first | exact .inl rfl | exact .inr rfl); rfl; kernel_rfl; exact FM.st
        apply JA.take (i := 1); rfl; (first | exact .inl rfl | exact .inr rfl); rfl; kernel_rfl; exact FM.st
        apply JA.take (i := 4); rfl; (first | exact .inl rfl | exact .inr rfl); rfl; kernel_rfl; exact FM.st
        apply JA.take (i := 5); rfl; (first | exact .inl rfl | exact .inr rfl); rfl; kernel_rfl; exact FM.st
        apply JA.takeW (i := 6); rfl; rfl; kernel_rfl; (first | ((with_reducible apply w_add) <;> exact w9l) | ((with_reducible apply w_sub) <;> exact w9l) | ((with_reducible apply w_ixaO) <;> exact w9l) | ((with_reducible apply w_ixaS) <;> exact w9l) | ((with_reducible apply w_fadD) <;> exact w9l))
        apply JA.two (i := 2) (j := 7); kernel_rfl; rfl; rfl
        · (repeat' (first | ((with_reducible apply J.step); rfl; exact FM.st) | ((with_reducible apply J.eff); rfl; exact FM.ef) | ((with_reducible apply J.callP (hCl)); rfl; rfl; (repeat' (first | exact ArgsOk.nil | apply ArgsOk.cons | exact ArgOk.pl rfl rfl | exact ArgOk.br rfl AV.noConfusion (by first | rfl | exact sh_int | exact sh_rows | exact sh_rowsO | exact sh_box | exact sh_map (fun _ => rfl)))); (first | exact (fun _ => NoSh.int) | exact (fun h => Bool.noConfusion h))) | with_reducible refine J.nil ?_))
          apply JA.two (i := 3) (j := 7); kernel_rfl; rfl; rfl
          · (repeat' (first | ((with_reducible apply J.step); rfl; exact FM.st) | ((with_reducible apply J.eff); rfl; exact FM.ef) | ((with_reducible apply J.callP (hCl)); rfl; rfl; (repeat' (first | exact ArgsOk.nil | apply ArgsOk.cons | exact ArgOk.pl rfl rfl | exact ArgOk.br rfl AV.noConfusion (by first | rfl | exact sh_int | exact sh_rows | exact sh_rowsO | exact sh_box | exact sh_map (fun _ => rfl)))); (first | exact (fun _ => NoSh.int) | exact (fun h => Bool.noConfusion h))) | with_reducible refine J.nil ?_))
            apply JA.one (i := 7); kernel_rfl; rfl
            (repeat' (first | ((with_reducible apply J.step); rfl; exact FM.st) | ((with_reducible apply J.eff); rfl; exact FM.ef) | ((with_reducible apply J.callP (hCl)); rfl; rfl; (repeat' (first | exact ArgsOk.nil | apply ArgsOk.cons | exact ArgOk.pl rfl rfl | exact ArgOk.br rfl AV.noConfusion (by first | rfl | exact sh_int | exact sh_rows | exact sh_rowsO | exact sh_box | exact sh_map (fun _ => rfl)))); (first | exact (fun _ => NoSh.int) | exact (fun h => Bool.noConfusion h))) | with_reducible refine J.nil ?_))
            apply JA.one (i := 8); kernel_rfl; rfl
            (repeat' (first | ((with_reducible apply J.step); rfl; exact FM.st) | ((with_reducible apply J.eff); rfl; exact FM.ef) | ((with_reducible apply J.callP (hCl)); rfl; rfl; (repeat' (first | exact ArgsOk.nil | apply ArgsOk.cons | exact ArgOk.pl rfl rfl | exact ArgOk.br rfl AV.noConfusion (by first | rfl | exact sh_int | exact sh_rows | exact sh_rowsO | exact sh_box | exact sh_map (fun _ => rfl)))); (first | exact (fun _ => NoSh.int) | exact (fun h => Bool.noConfusion h))) | with_reducible refine J.nil ?_))
            apply JA.take (i := 9); rfl; (first | exact .inl rfl | exact .inr rfl); rfl; kernel_rfl; exact FM.st
            apply JA.take (i := 10); rfl; (first | exact .inl rfl | exact .inr rfl); rfl; kernel_rfl; exact FM.st
            refine JA.done (by kernel_rfl) ?_
            exact ⟨rfl, by exact w9a⟩
          · (repeat' (first | ((with_reducible apply J.step); rfl; exact FM.st) | ((with_reducible apply J.eff); rfl; exact FM.ef) | ((with_reducible apply J.callP (hCl)); rfl; rfl; (repeat' (first | exact ArgsOk.nil | apply ArgsOk.cons | exact ArgOk.pl rfl rfl | exact ArgOk.br rfl AV.noConfusion (by first | rfl | exact sh_int | exact sh_rows | exact sh_rowsO | exact sh_box | exact sh_map (fun _ => rfl)))); (first | exact (fun _ => NoSh.int) | exact (fun h => Bool.noConfusion h))) | with_reducible refine J.nil ?_))
            apply JA.one (i := 3); kernel_rfl; rfl
            (repeat' (first | ((with_reducible apply J.step); rfl; exact FM.st) | ((with_reducible apply J.eff); rfl; exact FM.ef) | ((with_reducible apply J.callP (hCl)); rfl; rfl; (repeat' (first | exact ArgsOk.nil | apply ArgsOk.cons | exact ArgOk.pl rfl rfl | exact ArgOk.br rfl AV.noConfusion (by first | rfl | exact sh_int | exact sh_rows | exact sh_rowsO | exact sh_box | exact sh_map (fun _ => rfl)))); (first | exact (fun _ => NoSh.int) | exact (fun h => Bool.noConfusion h))) | with_reducible refine J.nil ?_))
            apply JA.one (i := 8); kernel_rfl; rfl
            (repeat' (first | ((with_reducible apply J.step); rfl; exact FM.st) | ((with_reducible apply J.eff); rfl; exact FM.ef) | ((with_reducible apply J.callP (hCl)); rfl; rfl; (repeat' (first | exact ArgsOk.nil | apply ArgsOk.cons | exact ArgOk.pl rfl rfl | exact ArgOk.br rfl AV.noConfusion (by first | rfl | exact sh_int | exact sh_rows | exact sh_rowsO | exact sh_box | exact sh_map (fun _ => rfl)))); (first | exact (fun _ => NoSh.int) | exact (fun h => Bool.noConfusion h))) | with_reducible refine J.nil ?_))
            apply JA.take (i := 9); rfl; (first | exact .inl rfl | exact .inr rfl); rfl; kernel_rfl; exact FM.st
            apply JA.take (i := 10); rfl; (first | exact .inl rfl | exact .inr rfl); rfl; kernel_rfl; exact FM.st
            refine JA.done (by kernel_rfl) ?_
            exact ⟨rfl, by exact w9a⟩
        · (repeat' (first | ((with_reducible apply J.step); rfl; exact FM.st) | ((with_reducible apply J.eff); rfl; exact FM.ef) | ((with_reducible apply J.callP (hCl)); rfl; rfl; (repeat' (first | exact ArgsOk.nil | apply ArgsOk.cons | exact ArgOk.pl rfl rfl | exact ArgOk.br rfl AV.noConfusion (by first | rfl | exact sh_int | exact sh_rows | exact sh_rowsO | exact sh_box | exact sh_map (fun _ => rfl)))); (first | exact (fun _ => NoSh.int) | exact (fun h => Bool.noConfusion h))) | with_reducible refine J.nil ?_))
          apply JA.one (i := 2); kernel_rfl; rfl
          (repeat' (first | ((with_reducible apply J.step); rfl; exact FM.st) | ((with_reducible apply J.eff); rfl; exact FM.ef) | ((with_reducible apply J.callP (hCl)); rfl; rfl; (repeat' (first | exact ArgsOk.nil | apply ArgsOk.cons | exact ArgOk.pl rfl rfl | exact ArgOk.br rfl AV.noConfusion (by first | rfl | exact sh_int | exact sh_rows | exact sh_rowsO | exact sh_box | exact sh_map (fun _ => rfl)))); (first | exact (fun _ => NoSh.int) | exact (fun h => Bool.noConfusion h))) | with_reducible refine J.nil ?_))
          apply JA.one (i := 3); kernel_rfl; rfl
          (repeat' (first | ((with_reducible apply J.step); rfl; exact FM.st) | ((with_reducible apply J.eff); rfl; exact FM.ef) | ((with_reducible apply J.callP (hCl)); rfl; rfl; (repeat' (first | exact ArgsOk.nil | apply ArgsOk.cons | exact ArgOk.pl rfl rfl | exact ArgOk.br rfl AV.noConfusion (by first | rfl | exact sh_int | exact sh_rows | exact sh_rowsO | exact sh_box | exact sh_map (fun _ => rfl)))); (first | exact (fun _ => NoSh.int) | exact (fun h => Bool.noConfusion h))) | with_reducible refine J.nil ?_))
          apply JA.one (i := 8); kernel_rfl; rfl
          (repeat' (first | ((with_reducible apply J.step); rfl; exact FM.st) | ((with_reducible apply J.eff); rfl; exact FM.ef) | ((with_reducible apply J.callP (hCl)); rfl; rfl; (repeat' (first | exact ArgsOk.nil | apply ArgsOk.cons | exact ArgOk.pl rfl rfl | exact ArgOk.br rfl AV.noConfusion (by first | rfl | exact sh_int | exact sh_rows | exact sh_rowsO | exact sh_box | exact sh_map (fun _ => rfl)))); (first | exact (fun _ => NoSh.int) | exact (fun h => Bool.noConfusion h))) | with_reducible refine J.nil ?_))
          apply JA.take (i := 9); rfl; (first | exact .inl rfl | exact .inr rfl); rfl; kernel_rfl; exact FM.st
          apply JA.take (i := 10); rfl; (first | exact .inl rfl | exact .inr rfl); rfl; kernel_rfl; exact FM.st
          refine JA.done (by kernel_rfl) ?_
          exact ⟨rfl, by exact w9a⟩
      (repeat' (first | refine w9x ?_ | (refine w9c ?_ ?_ <;> intro _ <;> try exact w9o) | (refine w9d ?_ ?_ <;> intro _ <;> try exact w9s) | (refine w9q ?_; intro bnil hbnil)))
      all_goals first | (exfalso; omega) | exact .mk rfl rfl rfl
  · rw [if_pos c1, if_neg c1]
    generalize ofE l = e at *
    refine FnSpec.enter (S := Sy) 0 Tryz.func47 rfl rfl rfl Tryz.ntmps47 rfl rfl rfl rfl fun v0 => ?_
    (repeat' (first | refine w9x ?_ | refine w9p (hC) ?_ | (refine w9c ?_ ?_ <;> intro _ <;> try exact w9o) | (refine w9d ?_ ?_ <;> intro _ <;> try exact w9s) | (refine w9q ?_; intro bnil hbnil)))
    all_goals first | (exfalso; omega) | exact .mk rfl rfl rfl
end Go.Proofs.YtkkcnppgcnmikaaGreatDoor
