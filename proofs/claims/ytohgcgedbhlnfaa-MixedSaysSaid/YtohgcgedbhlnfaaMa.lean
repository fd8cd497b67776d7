/- Mixing two rows: the reference's small functions, walked. -/
import Derived.Test.YtohgcgedbhlnfaaMz
import Derived.Test.YtohgcgedbhlnfaaMx
import Derived.Test.YtohgcgedbhlnfaaLr
namespace Go.Proofs.Ytohgcgedbhlnfaa
open Go FM
set_option maxRecDepth 10000
set_option maxHeartbeats 1600000
set_option linter.all false
theorem lst_gmin {A B : List Int} {f : Int × Int} {g : Nat} (hg : 1 ≤ g) : gmin (tb g (vl A B f)) = lst A B f g := by
  have hne : tb g (vl A B f) ≠ [] := fun e => by have := congrArg List.length e; rw [tb_length] at this; simp at this; omega
  obtain ⟨h1, h2⟩ := gmin_spec hne
  obtain ⟨k, hk, e⟩ := lst_mem (A := A) (B := B) (f := f) (n := g)
  have m1 : ∀ k, k < g → vl A B f k ∈ tb g (vl A B f) := fun k hk => List.mem_map.2 ⟨k, List.mem_range.2 hk, rfl⟩
  have a1 : gmin (tb g (vl A B f)) ≤ lst A B f g := by
    rw [e]
    rcases hk with rfl | hk
    · exact h2 _ (m1 0 (by omega))
    · exact h2 _ (m1 k hk)
  obtain ⟨j, hj, e2⟩ := List.mem_map.1 h1
  have a2 := lst_le (A := A) (B := B) (f := f) (List.mem_range.1 hj)
  omega
theorem leastOf_spec (g : Nat) (A B : List Int) (h : Two g A B) (p q : Int) (hf : okF (p, q)) : FnSpec Sy.P 81 [.sl false 1 (([A, B]).map rwS), .int p, .int q] [.sl false 1 (([A, B]).map rwS), .int p, .int q] (.int (lst A B (p, q) g)) := by
  have hg1 := h.g1; have hg6 := h.g6; have hla := h.la; have hlb := h.lb
  have hM0 : ([A, B] : List (List Int))[0]? = some A := rfl
  have hM1 : ([A, B] : List (List Int))[1]? = some B := rfl
  have hf' := hf
  obtain ⟨f1, f2, f3, f4⟩ := hf'
  simp only at f1 f2 f3 f4
  have hMi := Min_spec (tb g (vl A B (p, q))) (by rw [tb_length]; exact hg1) (by rw [tb_length]; omega)
  rw [lst_gmin hg1] at hMi
  refine FnSpec.enter (S := Sy) 0 Try.func81 rfl rfl rfl Try.ntmps81 rfl rfl rfl rfl fun v0 => ?_
  generalize [A, B] = M at *
  (repeat' (first | ((with_reducible apply J.step); rfl; exact FM.st) | ((with_reducible apply J.eff); rfl; exact FM.ef) | ((with_reducible apply J.eqNil); rfl; rfl; rfl; rfl; intro bnil hbnil) | (refine J.takeRow rfl rfl AV.noConfusion rfl (by first | assumption | (simp only [List.length_map]; omega)) ?_) | with_reducible refine J.nil ?_ | ((with_reducible apply J.skipV); rfl; rfl; rfl) | ((with_reducible apply J.skipU); rfl; rfl) | with_reducible refine CW.seq ?_ | with_reducible refine CW.block ?_ | ((with_reducible refine CW.reg ?_ ?_); rfl) | ((with_reducible refine CW.regQN ?_ ?_ ?_ ?_); rfl; kernel_rfl; rfl) | ((with_reducible refine CW.regS 1 ?_ ?_ ?_); kernel_rfl; rfl; simp only [List.length_cons, List.length_nil, Nat.reduceAdd, Nat.reduceSub, List.take_succ_cons, List.take_zero, List.drop_succ_cons, List.drop_zero]) | with_reducible refine CW.skip ?_ | with_reducible refine CW.ret ?_ | with_reducible refine CW.exit ?_ | refine CW.condT rfl ?_ | refine CW.condF rfl ?_ | (refine CW.condD rfl (fun _ => ?_) (fun _ => ?_) <;> (try (exfalso; omega))) | (refine CW.cond rfl (fun _ => ?_) (fun _ => ?_) <;> (try (exfalso; simp only [decide_eq_true_eq, decide_eq_false_iff_not, Bool.and_eq_true, Bool.or_eq_true] at *; omega))) | with_reducible refine thenQ_n ?_ | with_reducible refine blockQ_n ?_ | ((with_reducible refine blockQ_e ?_ ?_); rfl) | ((with_reducible refine blockQ_x ?_ ?_); rfl) | with_reducible refine blockQ_r ?_ | with_reducible refine thenQ_x ?_ | with_reducible refine thenQ_r ?_ | ((fail_if_success ((with_reducible apply J.step); rfl)); (fail_if_success ((with_reducible apply J.skipU); rfl)); refine J.splitG rfl rfl (fun _ => ?_) (fun _ => ?_) <;> (try (exfalso; omega))) | ((fail_if_success ((with_reducible apply J.step); rfl)); (fail_if_success ((with_reducible apply J.skipU); rfl)); refine J.splitB rfl rfl (fun _ => ?_) (fun _ => ?_))))
  refine CW.own 7 1 rfl ?_
  refine CW.loop (fun k : Nat => [(0, .av (.sl false 1 ((M).map rwS))), (1, .av (.int (p))), (2, .av (.int (q))), (7, .av (.sl true 1 ((tb k (vl A B (p, q))).map .int))), (12, .av (.sl false 1 ((A).map .int))), (13, .av (.int (g))), (14, .av (.int (k)))]) (fun k => k ≤ g) (fun k => g - k) (0) ?_ (by (repeat' (first | exact trivial | rfl | refine And.intro ?_ ?_ | exact int_congr (by omega) | exact ints_congr (by first | assumption | exact Eq.symm (by assumption)) | exact int_congr (by assumption) | exact bool_congr (by first | assumption | exact Eq.symm (by assumption)) | exact map_congr' (by first | assumption | exact Eq.symm (by assumption))))) ?_
  · exact Nat.zero_le _
  intro k hk
  have hts := tb_succ (n := k) (g := vl A B (p, q))
  have htl := tb_length (n := k) (g := vl A B (p, q))
  by_cases hlt : k < g
  · have hAk := getD_at (A := A) (k := k) (by omega)
    have hBk := getD_at (A := B) (k := k) (by omega)
    have hvk := vl_bnd h hf k
    have e1 : vl A B (p, q) k = A.getD k 0 * p + B.getD k 0 * (q - p) := rfl
    rw [e1] at hts
    simp only [vl] at hvk
    clear e1
    generalize A.getD k 0 = x at *
    generalize B.getD k 0 = y at *
    (repeat' (first | ((with_reducible apply J.step); rfl; exact FM.st) | ((with_reducible apply J.eff); rfl; exact FM.ef) | ((with_reducible apply J.eqNil); rfl; rfl; rfl; rfl; intro bnil hbnil) | (refine J.takeRow rfl rfl AV.noConfusion rfl (by first | assumption | (simp only [List.length_map]; omega)) ?_) | with_reducible refine J.nil ?_ | ((with_reducible apply J.skipV); rfl; rfl; rfl) | ((with_reducible apply J.skipU); rfl; rfl) | with_reducible refine CW.seq ?_ | with_reducible refine CW.block ?_ | ((with_reducible refine CW.reg ?_ ?_); rfl) | ((with_reducible refine CW.regQN ?_ ?_ ?_ ?_); rfl; kernel_rfl; rfl) | ((with_reducible refine CW.regS 1 ?_ ?_ ?_); kernel_rfl; rfl; simp only [List.length_cons, List.length_nil, Nat.reduceAdd, Nat.reduceSub, List.take_succ_cons, List.take_zero, List.drop_succ_cons, List.drop_zero]) | with_reducible refine CW.skip ?_ | with_reducible refine CW.ret ?_ | with_reducible refine CW.exit ?_ | refine CW.condT rfl ?_ | refine CW.condF rfl ?_ | (refine CW.condD rfl (fun _ => ?_) (fun _ => ?_) <;> (try (exfalso; omega))) | (refine CW.cond rfl (fun _ => ?_) (fun _ => ?_) <;> (try (exfalso; simp only [decide_eq_true_eq, decide_eq_false_iff_not, Bool.and_eq_true, Bool.or_eq_true] at *; omega))) | with_reducible refine thenQ_n ?_ | with_reducible refine blockQ_n ?_ | ((with_reducible refine blockQ_e ?_ ?_); rfl) | ((with_reducible refine blockQ_x ?_ ?_); rfl) | with_reducible refine blockQ_r ?_ | with_reducible refine thenQ_x ?_ | with_reducible refine thenQ_r ?_ | ((fail_if_success ((with_reducible apply J.step); rfl)); (fail_if_success ((with_reducible apply J.skipU); rfl)); refine J.splitG rfl rfl (fun _ => ?_) (fun _ => ?_) <;> (try (exfalso; omega))) | ((fail_if_success ((with_reducible apply J.step); rfl)); (fail_if_success ((with_reducible apply J.skipU); rfl)); refine J.splitB rfl rfl (fun _ => ?_) (fun _ => ?_))))
    all_goals first | (exfalso; omega) | skip
    refine ⟨k+1, ?_, by first | omega | (simp only; omega), by (repeat' (first | exact trivial | rfl | refine And.intro ?_ ?_ | exact int_congr (by omega) | exact ints_congr (by first | assumption | exact Eq.symm (by assumption)) | exact int_congr (by assumption) | exact bool_congr (by first | assumption | exact Eq.symm (by assumption)) | exact map_congr' (by first | assumption | exact Eq.symm (by assumption))))⟩
    omega
  · obtain rfl : k = g := by omega
    (repeat' (first | ((with_reducible apply J.step); rfl; exact FM.st) | ((with_reducible apply J.eff); rfl; exact FM.ef) | ((with_reducible apply J.callP (hMi)); rfl; rfl; (repeat' (first | exact ArgsOk.nil | apply ArgsOk.cons | exact ArgOk.pl rfl rfl | exact ArgOk.br rfl AV.noConfusion (by first | rfl | exact sh_int | exact sh_rows | exact sh_rowsO | exact sh_box | exact sh_map (fun _ => rfl)))); (first | rfl | exact (fun h => Bool.noConfusion h) | exact (fun _ => noSh_ints) | exact (fun _ => noSh_strs) | exact (fun _ => NoSh.str) | exact (fun _ => noSh_rows) | exact (fun _ => NoSh.int) | exact (fun _ => NoSh.bool) | exact (fun _ => NoSh.nil) | exact (fun _ => noSh_tup2 (by first | exact noSh_ints | exact noSh_strs | exact NoSh.str | exact noSh_rows | exact NoSh.nil | exact NoSh.int | exact NoSh.bool) (by first | exact noSh_ints | exact noSh_strs | exact NoSh.str | exact NoSh.int | exact NoSh.bool | exact noSh_rows | exact NoSh.nil)) | exact (fun _ => noSh_tup3 (by first | exact noSh_ints | exact noSh_strs | exact NoSh.str | exact noSh_rows | exact NoSh.nil | exact NoSh.int | exact NoSh.bool) (by first | exact noSh_ints | exact noSh_strs | exact NoSh.str | exact NoSh.int | exact NoSh.bool | exact noSh_rows | exact NoSh.nil) (by first | exact noSh_ints | exact noSh_strs | exact NoSh.str | exact NoSh.int | exact NoSh.bool | exact noSh_rows | exact NoSh.nil)))) | ((with_reducible apply J.callPQ (hMi)); rfl; rfl; (repeat' (first | exact ArgsOk.nil | apply ArgsOk.cons | exact ArgOk.pl rfl rfl | exact ArgOk.br rfl AV.noConfusion (by first | rfl | exact sh_int | exact sh_rows | exact sh_rowsO | exact sh_box | exact sh_map (fun _ => rfl)))); rfl) | ((with_reducible apply J.eqNil); rfl; rfl; rfl; rfl; intro bnil hbnil) | (refine J.takeRow rfl rfl AV.noConfusion rfl (by first | assumption | (simp only [List.length_map]; omega)) ?_) | with_reducible refine J.nil ?_ | ((with_reducible apply J.skipV); rfl; rfl; rfl) | ((with_reducible apply J.skipU); rfl; rfl) | with_reducible refine CW.seq ?_ | with_reducible refine CW.block ?_ | ((with_reducible refine CW.reg ?_ ?_); rfl) | ((with_reducible refine CW.regQN ?_ ?_ ?_ ?_); rfl; kernel_rfl; rfl) | ((with_reducible refine CW.regS 1 ?_ ?_ ?_); kernel_rfl; rfl; simp only [List.length_cons, List.length_nil, Nat.reduceAdd, Nat.reduceSub, List.take_succ_cons, List.take_zero, List.drop_succ_cons, List.drop_zero]) | with_reducible refine CW.skip ?_ | with_reducible refine CW.ret ?_ | with_reducible refine CW.exit ?_ | refine CW.condT rfl ?_ | refine CW.condF rfl ?_ | (refine CW.condD rfl (fun _ => ?_) (fun _ => ?_) <;> (try (exfalso; omega))) | (refine CW.cond rfl (fun _ => ?_) (fun _ => ?_) <;> (try (exfalso; simp only [decide_eq_true_eq, decide_eq_false_iff_not, Bool.and_eq_true, Bool.or_eq_true] at *; omega))) | with_reducible refine thenQ_n ?_ | with_reducible refine blockQ_n ?_ | ((with_reducible refine blockQ_e ?_ ?_); rfl) | ((with_reducible refine blockQ_x ?_ ?_); rfl) | with_reducible refine blockQ_r ?_ | with_reducible refine thenQ_x ?_ | with_reducible refine thenQ_r ?_ | ((fail_if_success ((with_reducible apply J.step); rfl)); (fail_if_success ((with_reducible apply J.skipU); rfl)); refine J.splitG rfl rfl (fun _ => ?_) (fun _ => ?_) <;> (try (exfalso; omega))) | ((fail_if_success ((with_reducible apply J.step); rfl)); (fail_if_success ((with_reducible apply J.skipU); rfl)); refine J.splitB rfl rfl (fun _ => ?_) (fun _ => ?_))))
    all_goals first | (exfalso; omega) | exact .mk rfl rfl rfl
theorem lowDone {p q a b : Int} {d : Nat} (hq : 0 < q) (hb : 0 < b) (he : a * q = p * b) (hd : ∀ e : Nat, 2 ≤ e → e < d → ¬ ((e : Int) ∣ a ∧ (e : Int) ∣ b)) (hbd : b < d) : (lowT p q).1 = a ∧ (lowT p q).2 = b := by
  have hg : Int.gcd a b = 1 := by
    have h0 := gcd_pos (p := a) hb
    rcases Nat.lt_or_ge 1 (Int.gcd a b) with h | h
    · exfalso
      have d2 := Int.gcd_dvd_right (a := a) (b := b)
      have hle := Int.le_of_dvd hb d2
      exact hd _ h (by omega) ⟨Int.gcd_dvd_left .., d2⟩
    · omega
  have := lowT_of hq hb he hg
  rw [this]; exact ⟨rfl, rfl⟩
theorem lowOf_spec (p q : Int) (hp : -1000000000 ≤ p ∧ p ≤ 1000000000) (hq : 0 < q ∧ q ≤ 4000) : FnSpec Sy.P 82 [.int p, .int q] [.int p, .int q] (.agg [.int (lowT p q).1, .int (lowT p q).2]) := by
  refine FnSpec.enter (S := Sy) 0 Try.func82 rfl rfl rfl Try.ntmps82 rfl rfl rfl rfl fun v0 => ?_
  (repeat' (first | ((with_reducible apply J.step); rfl; exact FM.st) | ((with_reducible apply J.eff); rfl; exact FM.ef) | ((with_reducible apply J.eqNil); rfl; rfl; rfl; rfl; intro bnil hbnil) | (refine J.takeRow rfl rfl AV.noConfusion rfl (by first | assumption | (simp only [List.length_map]; omega)) ?_) | with_reducible refine J.nil ?_ | ((with_reducible apply J.skipV); rfl; rfl; rfl) | ((with_reducible apply J.skipU); rfl; rfl) | with_reducible refine CW.seq ?_ | with_reducible refine CW.block ?_ | ((with_reducible refine CW.reg ?_ ?_); rfl) | ((with_reducible refine CW.regQN ?_ ?_ ?_ ?_); rfl; kernel_rfl; rfl) | ((with_reducible refine CW.regS 1 ?_ ?_ ?_); kernel_rfl; rfl; simp only [List.length_cons, List.length_nil, Nat.reduceAdd, Nat.reduceSub, List.take_succ_cons, List.take_zero, List.drop_succ_cons, List.drop_zero]) | with_reducible refine CW.skip ?_ | with_reducible refine CW.ret ?_ | with_reducible refine CW.exit ?_ | refine CW.condT rfl ?_ | refine CW.condF rfl ?_ | (refine CW.condD rfl (fun _ => ?_) (fun _ => ?_) <;> (try (exfalso; omega))) | (refine CW.cond rfl (fun _ => ?_) (fun _ => ?_) <;> (try (exfalso; simp only [decide_eq_true_eq, decide_eq_false_iff_not, Bool.and_eq_true, Bool.or_eq_true] at *; omega))) | with_reducible refine thenQ_n ?_ | with_reducible refine blockQ_n ?_ | ((with_reducible refine blockQ_e ?_ ?_); rfl) | ((with_reducible refine blockQ_x ?_ ?_); rfl) | with_reducible refine blockQ_r ?_ | with_reducible refine thenQ_x ?_ | with_reducible refine thenQ_r ?_ | ((fail_if_success ((with_reducible apply J.step); rfl)); (fail_if_success ((with_reducible apply J.skipU); rfl)); refine J.splitG rfl rfl (fun _ => ?_) (fun _ => ?_) <;> (try (exfalso; omega))) | ((fail_if_success ((with_reducible apply J.step); rfl)); (fail_if_success ((with_reducible apply J.skipU); rfl)); refine J.splitB rfl rfl (fun _ => ?_) (fun _ => ?_))))
  refine CW.loop (fun z : Nat × Int × Int => [(0, .av (.int (z.2.1))), (1, .av (.int (z.2.2))), (4, .av (.pt true [.int 0, .int 0])), (5, .av (.int (z.1)))]) (fun z => (-1000000000 ≤ z.2.1 ∧ z.2.1 ≤ 1000000000) ∧ (0 < z.2.2 ∧ z.2.2 ≤ 4000) ∧ z.2.1 * q = p * z.2.2 ∧ 2 ≤ z.1 ∧ z.1 ≤ 4002 ∧ (∀ e : Nat, 2 ≤ e → e < z.1 → ¬ ((e : Int) ∣ z.2.1 ∧ (e : Int) ∣ z.2.2))) (fun z => 4003 - z.1) ((2, p, q)) ?_ (by (repeat' (first | exact trivial | rfl | refine And.intro ?_ ?_ | exact int_congr (by omega) | exact ints_congr (by first | assumption | exact Eq.symm (by assumption)) | exact int_congr (by assumption) | exact bool_congr (by first | assumption | exact Eq.symm (by assumption)) | exact map_congr' (by first | assumption | exact Eq.symm (by assumption))))) ?_
  · exact ⟨hp, hq, rfl, Nat.le_refl _, (by show 2 ≤ 4002; decide), fun e h1 h2 => by simp only at h2; omega⟩
  intro ⟨d, a, b⟩ ⟨ha, hb, he, hd2, hd3, hdv⟩
  dsimp only at ha hb he hd2 hd3 hdv ⊢
  by_cases hdb : (d : Int) ≤ b
  · (repeat' (first | ((with_reducible apply J.step); rfl; exact FM.st) | ((with_reducible apply J.eff); rfl; exact FM.ef) | ((with_reducible apply J.eqNil); rfl; rfl; rfl; rfl; intro bnil hbnil) | (refine J.takeRow rfl rfl AV.noConfusion rfl (by first | assumption | (simp only [List.length_map]; omega)) ?_) | with_reducible refine J.nil ?_ | ((with_reducible apply J.skipV); rfl; rfl; rfl) | ((with_reducible apply J.skipU); rfl; rfl) | with_reducible refine CW.seq ?_ | with_reducible refine CW.block ?_ | ((with_reducible refine CW.reg ?_ ?_); rfl) | ((with_reducible refine CW.regQN ?_ ?_ ?_ ?_); rfl; kernel_rfl; rfl) | ((with_reducible refine CW.regS 1 ?_ ?_ ?_); kernel_rfl; rfl; simp only [List.length_cons, List.length_nil, Nat.reduceAdd, Nat.reduceSub, List.take_succ_cons, List.take_zero, List.drop_succ_cons, List.drop_zero]) | with_reducible refine CW.skip ?_ | with_reducible refine CW.ret ?_ | with_reducible refine CW.exit ?_ | refine CW.condT rfl ?_ | refine CW.condF rfl ?_ | (refine CW.condD rfl (fun _ => ?_) (fun _ => ?_) <;> (try (exfalso; omega))) | (refine CW.cond rfl (fun _ => ?_) (fun _ => ?_) <;> (try (exfalso; simp only [decide_eq_true_eq, decide_eq_false_iff_not, Bool.and_eq_true, Bool.or_eq_true] at *; omega))) | with_reducible refine thenQ_n ?_ | with_reducible refine blockQ_n ?_ | ((with_reducible refine blockQ_e ?_ ?_); rfl) | ((with_reducible refine blockQ_x ?_ ?_); rfl) | with_reducible refine blockQ_r ?_ | with_reducible refine thenQ_x ?_ | with_reducible refine thenQ_r ?_ | ((fail_if_success ((with_reducible apply J.step); rfl)); (fail_if_success ((with_reducible apply J.skipU); rfl)); refine J.splitG rfl rfl (fun _ => ?_) (fun _ => ?_) <;> (try (exfalso; omega))) | ((fail_if_success ((with_reducible apply J.step); rfl)); (fail_if_success ((with_reducible apply J.skipU); rfl)); refine J.splitB rfl rfl (fun _ => ?_) (fun _ => ?_))))
    all_goals first | (exfalso; omega) | skip
    refine CW.loop (fun y : Int × Int => [(0, .av (.int (y.1))), (1, .av (.int (y.2))), (4, .av (.pt true [.int 0, .int 0])), (5, .av (.int (d)))]) (fun y => (-1000000000 ≤ y.1 ∧ y.1 ≤ 1000000000) ∧ (0 < y.2 ∧ y.2 ≤ 4000) ∧ y.1 * q = p * y.2 ∧ (∀ e : Nat, 2 ≤ e → e < d → ¬ ((e : Int) ∣ y.1 ∧ (e : Int) ∣ y.2))) (fun y => y.2.toNat) ((a, b)) ?_ (by (repeat' (first | exact trivial | rfl | refine And.intro ?_ ?_ | exact int_congr (by omega) | exact ints_congr (by first | assumption | exact Eq.symm (by assumption)) | exact int_congr (by assumption) | exact bool_congr (by first | assumption | exact Eq.symm (by assumption)) | exact map_congr' (by first | assumption | exact Eq.symm (by assumption))))) ?_
    · exact ⟨ha, hb, he, hdv⟩
    intro ⟨x, y⟩ ⟨hx, hy, hxy, hxd⟩
    dsimp only at hx hy hxy hxd ⊢
    have hd0 : (d : Int) ≠ 0 := by omega
    have i1 : x.tmod d = 0 ↔ (d : Int) ∣ x := (Int.dvd_iff_tmod_eq_zero ..).symm
    have i2 : y.tmod d = 0 ↔ (d : Int) ∣ y := (Int.dvd_iff_tmod_eq_zero ..).symm
    by_cases hc : (d : Int) ∣ x ∧ (d : Int) ∣ y
    · have c1 := i1.2 hc.1
      have c2 := i2.2 hc.2
      obtain ⟨u, hu⟩ := hc.1
      obtain ⟨v, hv⟩ := hc.2
      have t1 : x.tdiv d = u := by rw [hu]; exact Int.mul_tdiv_cancel_left _ hd0
      have t2 : y.tdiv d = v := by rw [hv]; exact Int.mul_tdiv_cancel_left _ hd0
      have hv0 : 0 < v := by
        rcases Int.lt_or_le 0 v with h | h
        · exact h
        · exfalso
          have := Int.mul_nonpos_of_nonneg_of_nonpos (a := (d : Int)) (by omega) h
          omega
      have hvy : v < y := by
        have : 2 * v ≤ (d : Int) * v := Int.mul_le_mul_of_nonneg_right (by omega) (by omega)
        omega
      have hun : u.natAbs ≤ x.natAbs := by rw [← t1]; exact Int.natAbs_tdiv_le_natAbs ..
      have huv : u * q = p * v := by
        refine Int.eq_of_mul_eq_mul_left hd0 ?_
        rw [← Int.mul_assoc, ← hu, hxy, hv, Int.mul_left_comm]
      have hdv2 : ∀ e : Nat, 2 ≤ e → e < d → ¬ ((e : Int) ∣ u ∧ (e : Int) ∣ v) := fun e h1 h2 ⟨h3, h4⟩ => hxd e h1 h2 ⟨by rw [hu]; exact Int.dvd_mul_of_dvd_right h3, by rw [hv]; exact Int.dvd_mul_of_dvd_right h4⟩
      rw [← t1] at hun huv hdv2
      rw [← t2] at hv0 hvy huv hdv2
      clear t1 t2 hu hv u v hc i1 i2
      generalize hX : x.tdiv d = X at *
      generalize hY : y.tdiv d = Y at *
      generalize hZ : x.tmod d = Z at *
      generalize hW : y.tmod d = W at *
      have r1 : InR X := by unfold InR; omega
      have r2 : InR Y := by unfold InR; omega
      (repeat' (first | ((with_reducible apply J.step); rfl; (exact (s_quo rfl rfl hd0 (hX.symm ▸ r1)).cast hX)) | ((with_reducible apply J.step); rfl; (exact (s_quo rfl rfl hd0 (hY.symm ▸ r2)).cast hY)) | ((with_reducible apply J.step); rfl; (exact (s_rem rfl rfl hd0).cast hZ)) | ((with_reducible apply J.step); rfl; (exact (s_rem rfl rfl hd0).cast hW)) | ((with_reducible apply J.step); rfl; exact FM.st) | ((with_reducible apply J.eff); rfl; exact FM.ef) | ((with_reducible apply J.eqNil); rfl; rfl; rfl; rfl; intro bnil hbnil) | (refine J.takeRow rfl rfl AV.noConfusion rfl (by first | assumption | (simp only [List.length_map]; omega)) ?_) | with_reducible refine J.nil ?_ | ((with_reducible apply J.skipV); rfl; rfl; rfl) | ((with_reducible apply J.skipU); rfl; rfl) | with_reducible refine CW.seq ?_ | with_reducible refine CW.block ?_ | ((with_reducible refine CW.reg ?_ ?_); rfl) | ((with_reducible refine CW.regQN ?_ ?_ ?_ ?_); rfl; kernel_rfl; rfl) | ((with_reducible refine CW.regS 1 ?_ ?_ ?_); kernel_rfl; rfl; simp only [List.length_cons, List.length_nil, Nat.reduceAdd, Nat.reduceSub, List.take_succ_cons, List.take_zero, List.drop_succ_cons, List.drop_zero]) | with_reducible refine CW.skip ?_ | with_reducible refine CW.ret ?_ | with_reducible refine CW.exit ?_ | refine CW.condT rfl ?_ | refine CW.condF rfl ?_ | (refine CW.condD rfl (fun _ => ?_) (fun _ => ?_) <;> (try (exfalso; omega))) | (refine CW.cond rfl (fun _ => ?_) (fun _ => ?_) <;> (try (exfalso; simp only [decide_eq_true_eq, decide_eq_false_iff_not, Bool.and_eq_true, Bool.or_eq_true] at *; omega))) | with_reducible refine thenQ_n ?_ | with_reducible refine blockQ_n ?_ | ((with_reducible refine blockQ_e ?_ ?_); rfl) | ((with_reducible refine blockQ_x ?_ ?_); rfl) | with_reducible refine blockQ_r ?_ | with_reducible refine thenQ_x ?_ | with_reducible refine thenQ_r ?_ | ((fail_if_success ((with_reducible apply J.step); rfl)); (fail_if_success ((with_reducible apply J.skipU); rfl)); refine J.splitG rfl rfl (fun _ => ?_) (fun _ => ?_) <;> (try (exfalso; omega))) | ((fail_if_success ((with_reducible apply J.step); rfl)); (fail_if_success ((with_reducible apply J.skipU); rfl)); refine J.splitB rfl rfl (fun _ => ?_) (fun _ => ?_))))
      all_goals first | (exfalso; omega) | skip
      refine ⟨(X, Y), ?_, by first | omega | (simp only; omega), by (repeat' (first | exact trivial | rfl | refine And.intro ?_ ?_ | exact int_congr (by omega) | exact ints_congr (by first | assumption | exact Eq.symm (by assumption)) | exact int_congr (by assumption) | exact bool_congr (by first | assumption | exact Eq.symm (by assumption)) | exact map_congr' (by first | assumption | exact Eq.symm (by assumption))))⟩
      exact ⟨by simp only; omega, by simp only; omega, huv, hdv2⟩
    · have hn : ∀ e : Nat, 2 ≤ e → e < d + 1 → ¬ ((e : Int) ∣ x ∧ (e : Int) ∣ y) := fun e h1 h2 h3 => by
        by_cases hed : e = d
        · subst hed; exact hc h3
        · exact hxd e h1 (by omega) h3
      have hz : ¬ (x.tmod d = 0 ∧ y.tmod d = 0) := fun ⟨h1, h2⟩ => hc ⟨i1.1 h1, i2.1 h2⟩
      generalize hZ : x.tmod d = Z at *
      generalize hW : y.tmod d = W at *
      clear i1 i2
      (repeat' (first | ((with_reducible apply J.step); rfl; (exact (s_rem rfl rfl hd0).cast hZ)) | ((with_reducible apply J.step); rfl; (exact (s_rem rfl rfl hd0).cast hW)) | ((with_reducible apply J.step); rfl; exact FM.st) | ((with_reducible apply J.eff); rfl; exact FM.ef) | ((with_reducible apply J.eqNil); rfl; rfl; rfl; rfl; intro bnil hbnil) | (refine J.takeRow rfl rfl AV.noConfusion rfl (by first | assumption | (simp only [List.length_map]; omega)) ?_) | with_reducible refine J.nil ?_ | ((with_reducible apply J.skipV); rfl; rfl; rfl) | ((with_reducible apply J.skipU); rfl; rfl) | with_reducible refine CW.seq ?_ | with_reducible refine CW.block ?_ | ((with_reducible refine CW.reg ?_ ?_); rfl) | ((with_reducible refine CW.regQN ?_ ?_ ?_ ?_); rfl; kernel_rfl; rfl) | ((with_reducible refine CW.regS 1 ?_ ?_ ?_); kernel_rfl; rfl; simp only [List.length_cons, List.length_nil, Nat.reduceAdd, Nat.reduceSub, List.take_succ_cons, List.take_zero, List.drop_succ_cons, List.drop_zero]) | with_reducible refine CW.skip ?_ | with_reducible refine CW.ret ?_ | with_reducible refine CW.exit ?_ | refine CW.condT rfl ?_ | refine CW.condF rfl ?_ | (refine CW.condD rfl (fun _ => ?_) (fun _ => ?_) <;> (try (exfalso; omega))) | (refine CW.cond rfl (fun _ => ?_) (fun _ => ?_) <;> (try (exfalso; simp only [decide_eq_true_eq, decide_eq_false_iff_not, Bool.and_eq_true, Bool.or_eq_true] at *; omega))) | with_reducible refine thenQ_n ?_ | with_reducible refine blockQ_n ?_ | ((with_reducible refine blockQ_e ?_ ?_); rfl) | ((with_reducible refine blockQ_x ?_ ?_); rfl) | with_reducible refine blockQ_r ?_ | with_reducible refine thenQ_x ?_ | with_reducible refine thenQ_r ?_ | ((fail_if_success ((with_reducible apply J.step); rfl)); (fail_if_success ((with_reducible apply J.skipU); rfl)); refine J.splitG rfl rfl (fun _ => ?_) (fun _ => ?_) <;> (try (exfalso; omega))) | ((fail_if_success ((with_reducible apply J.step); rfl)); (fail_if_success ((with_reducible apply J.skipU); rfl)); refine J.splitB rfl rfl (fun _ => ?_) (fun _ => ?_))))
      all_goals first | (exfalso; omega) | skip
      all_goals (refine ⟨(d + 1, x, y), ?_, by first | omega | (simp only; omega), by (repeat' (first | exact trivial | rfl | refine And.intro ?_ ?_ | exact int_congr (by omega) | exact ints_congr (by first | assumption | exact Eq.symm (by assumption)) | exact int_congr (by assumption) | exact bool_congr (by first | assumption | exact Eq.symm (by assumption)) | exact map_congr' (by first | assumption | exact Eq.symm (by assumption))))⟩; exact ⟨hx, hy, hxy, by simp only; omega, by simp only; omega, hn⟩)
  · obtain ⟨e1, e2⟩ := lowDone hq.1 hb.1 he hdv (by omega)
    rw [e1, e2]
    (repeat' (first | ((with_reducible apply J.step); rfl; exact FM.st) | ((with_reducible apply J.eff); rfl; exact FM.ef) | ((with_reducible apply J.eqNil); rfl; rfl; rfl; rfl; intro bnil hbnil) | (refine J.takeRow rfl rfl AV.noConfusion rfl (by first | assumption | (simp only [List.length_map]; omega)) ?_) | with_reducible refine J.nil ?_ | ((with_reducible apply J.skipV); rfl; rfl; rfl) | ((with_reducible apply J.skipU); rfl; rfl) | with_reducible refine CW.seq ?_ | with_reducible refine CW.block ?_ | ((with_reducible refine CW.reg ?_ ?_); rfl) | ((with_reducible refine CW.regQN ?_ ?_ ?_ ?_); rfl; kernel_rfl; rfl) | ((with_reducible refine CW.regS 1 ?_ ?_ ?_); kernel_rfl; rfl; simp only [List.length_cons, List.length_nil, Nat.reduceAdd, Nat.reduceSub, List.take_succ_cons, List.take_zero, List.drop_succ_cons, List.drop_zero]) | with_reducible refine CW.skip ?_ | with_reducible refine CW.ret ?_ | with_reducible refine CW.exit ?_ | refine CW.condT rfl ?_ | refine CW.condF rfl ?_ | (refine CW.condD rfl (fun _ => ?_) (fun _ => ?_) <;> (try (exfalso; omega))) | (refine CW.cond rfl (fun _ => ?_) (fun _ => ?_) <;> (try (exfalso; simp only [decide_eq_true_eq, decide_eq_false_iff_not, Bool.and_eq_true, Bool.or_eq_true] at *; omega))) | with_reducible refine thenQ_n ?_ | with_reducible refine blockQ_n ?_ | ((with_reducible refine blockQ_e ?_ ?_); rfl) | ((with_reducible refine blockQ_x ?_ ?_); rfl) | with_reducible refine blockQ_r ?_ | with_reducible refine thenQ_x ?_ | with_reducible refine thenQ_r ?_ | ((fail_if_success ((with_reducible apply J.step); rfl)); (fail_if_success ((with_reducible apply J.skipU); rfl)); refine J.splitG rfl rfl (fun _ => ?_) (fun _ => ?_) <;> (try (exfalso; omega))) | ((fail_if_success ((with_reducible apply J.step); rfl)); (fail_if_success ((with_reducible apply J.skipU); rfl)); refine J.splitB rfl rfl (fun _ => ?_) (fun _ => ?_))))
    all_goals first | (exfalso; omega) | exact .mk rfl rfl rfl
theorem lowOf_specV (p q : Int) (hp : -1000000000 ≤ p ∧ p ≤ 1000000000) (hq : 0 < q ∧ q ≤ 4000) : FnSpec Sy.P 82 [.int p, .int q] [.int p, .int q] (.val (pairV (lowT p q).1 (lowT p q).2)) :=
  (lowOf_spec p q hp hq).res pairV_rep
end Go.Proofs.Ytohgcgedbhlnfaa
