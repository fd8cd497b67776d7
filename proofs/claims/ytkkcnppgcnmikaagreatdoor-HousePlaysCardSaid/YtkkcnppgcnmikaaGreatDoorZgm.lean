/- The reference: what records tell, walked. -/
import Derived.Test.YtkkcnppgcnmikaaGreatDoorZfm
namespace Go.Proofs.YtkkcnppgcnmikaaGreatDoor
open Go FM Go.Proofs
set_option maxRecDepth 10000
set_option maxHeartbeats 3200000
set_option linter.all false
theorem told_spec (R : List Rc) (hR : ∀ r ∈ R, r.ok) (hRl : R.length ≤ 4000) : FnSpec Sy.P 46 [.sl false 1 ((R.map Rc.str).map .str)] [.sl false 1 ((R.map Rc.str).map .str)] (.sl true 3 ((rcs R).map acA)) := by
  have hz := rrd_zero R
  have hfin : ∀ A, Rrd R R.length A → A = rcs R := fun A h => by rw [h.eq, List.take_length]
  have hml : (R.map Rc.str).length = R.length := List.length_map ..
  have hget : ∀ i (h : i < R.length), (R.map Rc.str)[i]? = some R[i].str := fun i h => by rw [List.getElem?_map, List.getElem?_eq_getElem h]; rfl
  generalize R.map Rc.str = rs at *
  refine FnSpec.enter (S := Sy) 0 Tryz.func46 rfl rfl rfl Tryz.ntmps46 rfl rfl rfl rfl fun v0 => ?_
  (repeat' (first | refine w9x ?_ | (refine w9c ?_ ?_ <;> intro _ <;> try exact w9o) | (refine w9d ?_ ?_ <;> intro _ <;> try exact w9s) | (refine w9q ?_; intro bnil hbnil)))
  refine CW.leS (x := .nil) 3 rfl (AV.le.nil (o := true) (c := 3)) ?_
  refine CW.loop (fun z : Nat × List Ac => [(0, .av (.sl false 1 (rs.map .str))), (3, .av (.sl true 3 (z.2.map acA))), (12, .av (.sl false 1 (rs.map .str))), (13, .av (.int (R.length))), (14, .av (.int (z.1)))]) (fun z => Rrd R z.1 z.2) (fun z => R.length - z.1) ((0, [])) ?_ (by (repeat' (first | exact trivial | rfl | refine And.intro ?_ ?_ | exact int_congr (by omega) | exact int_congr (by dsimp only; omega) | exact ints_congr (by first | assumption | exact Eq.symm (by assumption)) | exact int_congr (by assumption) | exact bool_congr (by first | assumption | exact Eq.symm (by assumption)) | exact map_congr' (by first | assumption | exact Eq.symm (by assumption)) | exact int_congr (by rw [hml])))) ?_
  · exact hz
  rintro ⟨i, B⟩ hS
  dsimp only at hS ⊢
  by_cases hi : i < R.length
  · have hg := hget i hi
    have hok := hR R[i] (List.getElem_mem hi)
    have hS2 := rrd_succ hS (List.getElem?_eq_getElem hi) hok
    have hF := fields_spec R[i].str (by have := str_len hok; omega) (str_ascii hok)
    rw [fields_str hok] at hF
    have hBl := hS.al
    have hws := wsR_wd hok
    have hwl : (wsR R[i]).length ≤ 8 := by cases R[i] <;> simp [wsR]
    generalize R[i] = r at *
    obtain ⟨ws, hwe⟩ : ∃ ws, ws = wsR r := ⟨_, rfl⟩
    rw [← hwe] at hF hws hwl
    generalize r.str = rstr at *
    (repeat' (first | refine w9x ?_ | refine w9p (hF) ?_ | (refine w9c ?_ ?_ <;> intro _ <;> try exact w9o) | (refine w9d ?_ ?_ <;> intro _ <;> try exact w9s) | (refine w9q ?_; intro bnil hbnil)))
    all_goals first | (exfalso; omega) | skip
    refine CW.leS (x := .nil) 7 rfl (AV.le.nil (o := true) (c := 1)) ?_
    refine CW.loop (fun j : Nat => [(20, .ref 6), (0, .av (.sl false 1 (rs.map .str))), (3, .av (.sl true 3 (B.map acA))), (6, .av (strs true ws)), (7, .av (.sl true 1 (((ws.take j).map numOf).map .int))), (12, .av (.sl false 1 (rs.map .str))), (13, .av (.int (R.length))), (14, .av (.int (i))), (21, .av (.int (ws.length))), (22, .av (.int (j)))]) (fun j => j ≤ ws.length) (fun j => ws.length - j) (0) ?_ (by exact w9a) ?_
    · exact Nat.zero_le _
    intro j hj
    by_cases hjl : j < ws.length
    · have hgj : ws[j]? = some ws[j] := List.getElem?_eq_getElem hjl
      have hA := atoi_spec ws[j] (by have := (hws _ (List.getElem_mem hjl)).2; omega)
      have hsucc : (ws.take (j + 1)).map numOf = (ws.take j).map numOf ++ [numOf ws[j]] := by rw [List.take_add_one, hgj, List.map_append]; rfl
      have hll : ((ws.take j).map numOf).length = j := by rw [List.length_map, List.length_take]; omega
      generalize (ws.take j).map numOf = y at *
      generalize numOf ws[j] = q at *
      generalize ws[j] = wj at *
      (repeat' (first | refine w9x ?_ | refine w9p (hA) ?_ | (refine w9c ?_ ?_ <;> intro _ <;> try exact w9o) | (refine w9d ?_ ?_ <;> intro _ <;> try exact w9s) | (refine w9q ?_; intro bnil hbnil)))
      all_goals first | (exfalso; omega) | skip
      refine ⟨j+1, ?_, by first | omega | (simp only; omega), by exact w9a⟩
      exact hjl
    · obtain rfl : j = ws.length := by omega
      rw [List.take_length]
      subst hwe
      cases r with
      | o s m =>
        have hO := (openOf_spec B s m hBl (by have := nm_len hok.1; omega)).le resA_le
        have hrc : rcS B (.o s m) = ifA (opE B s m) (opM B s m) := rfl
        rw [hrc] at hS2
        generalize ifA (opE B s m) (opM B s m) = B2 at *
        generalize opE B s m = e at *
        have w0 : (wsR (.o s m))[0]? = some [111] := rfl
        have w1 : (wsR (.o s m))[1]? = some s := rfl
        have y2 : ((wsR (.o s m)).map numOf)[2]? = some m := by show some (numOf (Lib.itoa m)) = _; rw [numOf_itoa hok.2.1]
        generalize (wsR (.o s m)).map numOf = y at *
        generalize wsR (.o s m) = ws at *
        (repeat' (first | ((with_reducible refine w9i ?_); first | ((apply JA.one (fuel := 4) (i := 7)); kernel_rfl; rfl) | ((apply JA.take (fuel := 3) (i := 8)); rfl; exact .inl rfl; rfl; kernel_rfl; exact FM.st) | ((apply JA.takeW (fuel := 2) (i := 9)); rfl; rfl; kernel_rfl; exact (StepW.ext FM.st)) | ((apply JA.take (fuel := 1) (i := 11)); rfl; exact .inr rfl; rfl; kernel_rfl; exact FM.st) | ((apply JA.takeW (fuel := 0) (i := 10)); rfl; rfl; kernel_rfl; exact (StepW.ext FM.st)) | ((apply JA.done (fuel := 0)); kernel_rfl)) | ((refine CW.regU 7 5 ?_ (List.replicate 7 true ++ List.replicate 5 false) ?_ ?_ ?_); rfl; kernel_rfl; rfl; simp only [List.take_succ_cons, List.take_zero]) | refine w9x ?_ | refine w9p (hO) ?_ | (refine w9c ?_ ?_ <;> intro _ <;> try exact w9o) | (refine w9d ?_ ?_ <;> intro _ <;> try exact w9s) | (refine w9q ?_; intro bnil hbnil)))
        all_goals first | (exfalso; omega) | skip
        refine ⟨(i+1, B2), ?_, by first | omega | (simp only; omega), by exact w9a⟩
        all_goals first | exact hS2 | omega
      | d x w =>
        have n1 := hok.1.num; have n2 := hok.1.much; have n3 := hok.1.fee; have n4 := hok.1.size
        have hT := (takeOf_spec B x w hBl (by have := nm_len hok.1.f; omega) (by have := nm_len hok.1.t; omega)).le resA_le
        have hrc : rcS B (.d x w) = ifA (tkE B x w) (tkM B x w) := rfl
        rw [hrc] at hS2
        generalize ifA (tkE B x w) (tkM B x w) = B2 at *
        generalize tkE B x w = e at *
        have w0 : (wsR (.d x w))[0]? = some [100] := rfl
        have w1 : (wsR (.d x w))[1]? = some x.1 := rfl
        have w2 : (wsR (.d x w))[2]? = some x.2.1 := rfl
        have w7 : (wsR (.d x w))[7]? = some w := rfl
        have y3 : ((wsR (.d x w)).map numOf)[3]? = some x.2.2.1 := by show some (numOf (Lib.itoa _)) = _; rw [numOf_itoa n1.1]
        have y4 : ((wsR (.d x w)).map numOf)[4]? = some x.2.2.2.1 := by show some (numOf (Lib.itoa _)) = _; rw [numOf_itoa n2.1]
        have y5 : ((wsR (.d x w)).map numOf)[5]? = some x.2.2.2.2.1 := by show some (numOf (Lib.itoa _)) = _; rw [numOf_itoa n3.1]
        have y6 : ((wsR (.d x w)).map numOf)[6]? = some x.2.2.2.2.2.1 := by show some (numOf (Lib.itoa _)) = _; rw [numOf_itoa (by omega)]
        generalize (wsR (.d x w)).map numOf = y at *
        generalize wsR (.d x w) = ws at *
        (repeat' (first | ((with_reducible refine w9i ?_); first | ((apply JA.one (fuel := 4) (i := 23)); kernel_rfl; rfl) | ((apply JA.take (fuel := 3) (i := 24)); rfl; exact .inl rfl; rfl; kernel_rfl; exact FM.st) | ((apply JA.takeW (fuel := 2) (i := 25)); rfl; rfl; kernel_rfl; exact (StepW.ext FM.st)) | ((apply JA.take (fuel := 1) (i := 27)); rfl; exact .inr rfl; rfl; kernel_rfl; exact FM.st) | ((apply JA.takeW (fuel := 0) (i := 26)); rfl; rfl; kernel_rfl; exact (StepW.ext FM.st)) | ((apply JA.done (fuel := 0)); kernel_rfl)) | ((refine CW.regU 23 5 ?_ (List.replicate 23 true ++ List.replicate 5 false) ?_ ?_ ?_); rfl; kernel_rfl; rfl; simp only [List.take_succ_cons, List.take_zero]) | refine w9x ?_ | refine w9p (hT) ?_ | (refine w9c ?_ ?_ <;> intro _ <;> try exact w9o) | (refine w9d ?_ ?_ <;> intro _ <;> try exact w9s) | (refine w9q ?_; intro bnil hbnil)))
        all_goals first | (exfalso; omega) | skip
        refine ⟨(i+1, B2), ?_, by first | omega | (simp only; omega), by exact w9a⟩
        all_goals first | exact hS2 | omega
  · obtain rfl : i = R.length := by have := hS.le; omega
    have hB := hfin B hS
    subst hB
    (repeat' (first | refine w9x ?_ | (refine w9c ?_ ?_ <;> intro _ <;> try exact w9o) | (refine w9d ?_ ?_ <;> intro _ <;> try exact w9s) | (refine w9q ?_; intro bnil hbnil)))
    all_goals first | (exfalso; omega) | exact .mk rfl rfl rfl
end Go.Proofs.YtkkcnppgcnmikaaGreatDoor
