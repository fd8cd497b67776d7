/- Trees of moves: Solve, EndsOf, Play. -/
import Derived.Test.YtioodlkigdklhaaTs
namespace Go.Proofs.Ytioodlkigdklhaa
open Go FM
set_option maxRecDepth 10000
set_option maxHeartbeats 1600000
set_option linter.all false
theorem mvL_length {l : List Nd} {j : Nat} : (mvL l j).length = l.length := tb_length
theorem enL_length {l : List Nd} {j : Nat} : (enL l j).length = l.length := tb_length
theorem pyL_length {l : List Nd} {j : Nat} : (pyL l j).length = l.length := tb_length
theorem mvL_get {l : List Nd} {j a : Nat} (h : a < l.length) : (mvL l j)[a]? = some (eS l j a).1 := tb_get h
theorem enL_get {l : List Nd} {j a : Nat} (h : a < l.length) : (enL l j)[a]? = some ((eS l j a).2 : Int) := tb_get h
theorem pyL_get {l : List Nd} {j a : Nat} (h : a < l.length) (ha : l.length - j ≤ a) : (pyL l j)[a]? = some (payOf l (eS l j a).2) := by
  unfold pyL; rw [tb_get h, if_pos ha]
theorem pyL_get0 {l : List Nd} {j a : Nat} (h : a < l.length) (ha : a < l.length - j) : (pyL l j)[a]? = some [] := by
  unfold pyL; rw [tb_get h, if_neg (by omega)]
theorem mvL_set {l : List Nd} {j a : Nat} {v : Int} (ha : a = l.length - 1 - j) (hv : v = (nodeSol l (fun t => (eS l j t).2) a).1) : (mvL l j).set a v = mvL l (j + 1) := by
  subst hv
  unfold mvL
  rw [tb_set]
  refine tb_congr fun x _ => ?_
  by_cases h : x = a
  · subst h; rw [if_pos rfl]; subst ha; rw [eS_succ_at]
  · rw [if_neg h, eS_succ_other (by rw [← ha]; exact h)]
theorem enL_set {l : List Nd} {j a : Nat} {v : Int} (ha : a = l.length - 1 - j) (hv : v = ((nodeSol l (fun t => (eS l j t).2) a).2 : Int)) : (enL l j).set a v = enL l (j + 1) := by
  subst hv
  unfold enL
  rw [tb_set]
  refine tb_congr fun x _ => ?_
  by_cases h : x = a
  · subst h; rw [if_pos rfl]; subst ha; rw [eS_succ_at]
  · rw [if_neg h, eS_succ_other (by rw [← ha]; exact h)]
theorem pyL_set {l : List Nd} {j a : Nat} {v : List Int} (hj : j < l.length) (ha : a = l.length - 1 - j) (hv : v = payOf l (nodeSol l (fun t => (eS l j t).2) a).2) : (pyL l j).set a v = pyL l (j + 1) := by
  subst hv
  unfold pyL
  rw [tb_set]
  refine tb_congr fun x hx => ?_
  by_cases h : x = a
  · subst h; rw [if_pos rfl, if_pos (by omega)]; subst ha; rw [eS_succ_at]
  · rw [if_neg h, eS_succ_other (by rw [← ha]; exact h)]
    have : (l.length - j ≤ x) = (l.length - (j + 1) ≤ x) := by apply propext; omega
    simp only [this]
theorem mvL_zero {l : List Nd} : List.replicate l.length (0 : Int) = mvL l 0 := tb_replicate
theorem enL_zero {l : List Nd} : List.replicate l.length (0 : Int) = enL l 0 := tb_replicate
theorem pyL_zero {l : List Nd} : List.replicate l.length ([] : List Int) = pyL l 0 := by
  rw [tb_replicate]; exact tb_congr fun a ha => by rw [if_neg (by omega)]
theorem nodeSol_leaf {l : List Nd} {e : Nat → Nat} {a : Nat} {x : Nd} (hx : l[a]? = some x) (hw : x.1 < 0) : nodeSol l e a = (-1, a) := by
  unfold nodeSol; rw [getD_of_get hx, if_pos hw]
theorem nodeSol_node {l : List Nd} {e : Nat → Nat} {a : Nat} {x : Nd} (hx : l[a]? = some x) (hw : ¬ x.1 < 0) : nodeSol l e a = (((bt (payAt l e x.1) x.2.1 x.2.1.length : Nat) : Int), e (x.2.1.getD (bt (payAt l e x.1) x.2.1 x.2.1.length) 0).toNat) := by
  unfold nodeSol; rw [getD_of_get hx, if_neg hw]
/-- What a node's moves lead to. -/
theorem way_to {p : Int} {l : List Nd} (T : Tree p l) {j a : Nat} {who : Int} {to pay : List Int} (ha : a = l.length - 1 - j) (hj : j < l.length) (hx : l[a]? = some (who, to, pay, ())) (hw : ¬ who < 0) {k : Nat} (hk : k < to.length) :
    ∃ t : Nat, to[k]? = some (t : Int) ∧ to.getD k 0 = t ∧ a < t ∧ t < l.length ∧ ∃ w q u, l[(eS l j t).2]? = some (w, q, u, ()) ∧ (u.length : Int) = p ∧ payOf l (eS l j t).2 = u ∧ u[who.toNat]? = some (payAt l (fun t => (eS l j t).2) who t) ∧ -1000 ≤ payAt l (fun t => (eS l j t).2) who t ∧ payAt l (fun t => (eS l j t).2) who t ≤ 1000 ∧ (eS l j t).2 < l.length := by
  obtain ⟨n1, n2, n3, n4, n5⟩ := T.node a _ hx (by simpa using hw)
  simp only at n1 n2 n3 n4 n5
  have hm := n5 _ (List.getElem_mem hk)
  have h6 := T.p6
  obtain ⟨t, ht⟩ := Int.eq_ofNat_of_zero_le (show 0 ≤ to[k] by omega)
  obtain ⟨y, hy, hyw, hyl⟩ := eS_ok T j (by omega) t (by omega) (by omega)
  obtain ⟨w, q, u, ⟨⟩⟩ := y
  simp only at hyw hyl
  have hlt : who.toNat < u.length := by omega
  have e1 : payAt l (fun t => (eS l j t).2) who t = u[who.toNat] := by
    unfold payAt
    rw [Int.toNat_natCast, getD_of_get hy]
    exact getD_of_get (List.getElem?_eq_getElem hlt)
  have hb := (T.leaf _ _ hy (by simp only; omega)).2.2.2 _ (List.getElem_mem hlt)
  refine ⟨t, by rw [List.getElem?_eq_getElem hk, ht], by rw [getD_of_get (List.getElem?_eq_getElem hk), ht], by omega, by omega, w, q, u, hy, hyl, by unfold payOf; rw [getD_of_get hy], by rw [e1]; exact List.getElem?_eq_getElem hlt, by rw [e1]; exact hb.1, by rw [e1]; exact hb.2, (List.getElem?_eq_some_iff.1 hy).1⟩
theorem solve_spec (p : Int) (l : List Nd) (T : Tree p l) (hC : FnSpec Sy.P 47 [.int p, ndS l] [.int p, ndS l] (.int 0)) : FnSpec Sy.P 44 [.int p, ndS l] [.int p, ndS l] (.tup [.sl true 1 ((mvL l l.length).map .int), .sl true 1 ((pyL l l.length).map rwO), .int 0]) := by
  have hn1 := T.n1
  have hn30 := T.n30
  have hp6 := T.p6
  refine FnSpec.enter (S := Sy) 0 Try.func44 rfl rfl rfl Try.ntmps44 rfl rfl rfl rfl fun v0 => ?_
  (repeat' (first | ((with_reducible apply J.step); rfl; exact FM.st) | ((with_reducible apply J.eff); rfl; exact FM.ef) | ((with_reducible apply J.callP (hC)); rfl; rfl; (repeat' (first | exact ArgsOk.nil | apply ArgsOk.cons | exact ArgOk.pl rfl rfl | exact ArgOk.br rfl AV.noConfusion (by first | rfl | exact sh_int | exact sh_rows | exact sh_rowsO))); (first | rfl | exact (fun h => Bool.noConfusion h) | exact (fun _ => noSh_ints) | exact (fun _ => noSh_rows) | exact (fun _ => NoSh.int) | exact (fun _ => NoSh.bool) | exact (fun _ => NoSh.nil) | exact (fun _ => noSh_tup2 (by first | exact noSh_ints | exact noSh_rows | exact NoSh.nil | exact NoSh.int | exact NoSh.bool) (by first | exact noSh_ints | exact NoSh.int | exact NoSh.bool | exact noSh_rows | exact NoSh.nil)) | exact (fun _ => noSh_tup3 (by first | exact noSh_ints | exact noSh_rows | exact NoSh.nil | exact NoSh.int | exact NoSh.bool) (by first | exact noSh_ints | exact NoSh.int | exact NoSh.bool | exact noSh_rows | exact NoSh.nil) (by first | exact noSh_ints | exact NoSh.int | exact NoSh.bool | exact noSh_rows | exact NoSh.nil)))) | ((with_reducible apply J.callPQ (hC)); rfl; rfl; (repeat' (first | exact ArgsOk.nil | apply ArgsOk.cons | exact ArgOk.pl rfl rfl | exact ArgOk.br rfl AV.noConfusion (by first | rfl | exact sh_int | exact sh_rows | exact sh_rowsO))); rfl) | ((with_reducible apply J.eqNil); rfl; rfl; rfl; rfl; intro bnil hbnil) | (refine J.takeRow rfl rfl AV.noConfusion rfl (by first | assumption | (simp only [List.length_map]; omega)) ?_) | with_reducible refine J.nil ?_ | ((with_reducible apply J.skipV); rfl; rfl; rfl) | ((with_reducible apply J.skipU); rfl; rfl) | with_reducible refine CW.seq ?_ | with_reducible refine CW.block ?_ | ((with_reducible refine CW.reg ?_ ?_); rfl) | ((with_reducible refine CW.regQN ?_ ?_ ?_ ?_); rfl; kernel_rfl; rfl) | ((with_reducible refine CW.regS 1 ?_ ?_ ?_); kernel_rfl; rfl; simp only [List.length_cons, List.length_nil, Nat.reduceAdd, Nat.reduceSub, List.take_succ_cons, List.take_zero, List.drop_succ_cons, List.drop_zero]) | with_reducible refine CW.skip ?_ | with_reducible refine CW.ret ?_ | with_reducible refine CW.exit ?_ | refine CW.condT rfl ?_ | refine CW.condF rfl ?_ | (refine CW.condD rfl (fun _ => ?_) (fun _ => ?_) <;> (try (exfalso; omega))) | (refine CW.cond rfl (fun _ => ?_) (fun _ => ?_) <;> (try (exfalso; simp only [decide_eq_true_eq, decide_eq_false_iff_not, Bool.and_eq_true, Bool.or_eq_true] at *; omega))) | with_reducible refine thenQ_n ?_ | with_reducible refine blockQ_n ?_ | ((with_reducible refine blockQ_e ?_ ?_); rfl) | ((with_reducible refine blockQ_x ?_ ?_); rfl) | with_reducible refine blockQ_r ?_ | with_reducible refine thenQ_x ?_ | with_reducible refine thenQ_r ?_ | ((fail_if_success ((with_reducible apply J.step); rfl)); (fail_if_success ((with_reducible apply J.skipU); rfl)); refine J.splitG rfl rfl (fun _ => ?_) (fun _ => ?_) <;> (try (exfalso; omega))) | ((fail_if_success ((with_reducible apply J.step); rfl)); (fail_if_success ((with_reducible apply J.skipU); rfl)); refine J.splitB rfl rfl (fun _ => ?_) (fun _ => ?_))))
  refine CW.leS 9 rfl le_nils ?_
  have z1 := mvL_zero (l := l)
  have z2 := pyL_zero (l := l)
  refine CW.loop (fun j : Nat => [(1, .av (ndS l)), (8, .av (.sl true 1 ((mvL l j).map .int))), (9, .av (.sl true 1 ((pyL l j).map rwO))), (10, .av (.int ((l.length : Int) - 1 - j)))]) (fun j => j ≤ l.length) (fun j => l.length - j) (0) ?_ (by (repeat' (first | exact trivial | rfl | refine And.intro ?_ ?_ | exact int_congr (by omega) | exact ints_congr (by first | assumption | exact Eq.symm (by assumption)) | exact int_congr (by assumption) | exact bool_congr (by first | assumption | exact Eq.symm (by assumption)) | exact map_congr' (by first | assumption | exact Eq.symm (by assumption))))) ?_
  · exact Nat.zero_le _
  intro j hj
  have hml := mvL_length (l := l) (j := j)
  have hpl := pyL_length (l := l) (j := j)
  by_cases hlt : j < l.length
  · obtain ⟨a, ha⟩ : ∃ a, a = l.length - 1 - j := ⟨_, rfl⟩
    have hai : (l.length : Int) - 1 - j = (a : Int) := by omega
    have hal : a < l.length := by omega
    have hx : l[a]? = some l[a] := List.getElem?_eq_getElem hal
    have g1 := mvL_get (j := j) hal
    have g2 := pyL_get0 (j := j) hal (by omega)
    rw [hai]
    generalize l[a] = x at *
    obtain ⟨who, to, pay, ⟨⟩⟩ := x
    by_cases hw : who < 0
    · have hs := nodeSol_leaf (e := fun t => (eS l j t).2) hx hw
      have hleaf := (T.leaf a _ hx hw).2.2.1
      simp only at hleaf
      have e1 := mvL_set (v := -1) ha (by rw [hs])
      have e2 := pyL_set (v := [] ++ pay) hlt ha (by rw [hs]; simp only [List.nil_append, payOf]; rw [getD_of_get hx])
      (repeat' (first | ((with_reducible apply J.step); rfl; exact FM.st) | ((with_reducible apply J.eff); rfl; exact FM.ef) | ((with_reducible apply J.eqNil); rfl; rfl; rfl; rfl; intro bnil hbnil) | (refine J.takeRow rfl rfl AV.noConfusion rfl (by first | assumption | (simp only [List.length_map]; omega)) ?_) | with_reducible refine J.nil ?_ | ((with_reducible apply J.skipV); rfl; rfl; rfl) | ((with_reducible apply J.skipU); rfl; rfl) | with_reducible refine CW.seq ?_ | with_reducible refine CW.block ?_ | ((with_reducible refine CW.reg ?_ ?_); rfl) | ((with_reducible refine CW.regQN ?_ ?_ ?_ ?_); rfl; kernel_rfl; rfl) | ((with_reducible refine CW.regS 1 ?_ ?_ ?_); kernel_rfl; rfl; simp only [List.length_cons, List.length_nil, Nat.reduceAdd, Nat.reduceSub, List.take_succ_cons, List.take_zero, List.drop_succ_cons, List.drop_zero]) | with_reducible refine CW.skip ?_ | with_reducible refine CW.ret ?_ | with_reducible refine CW.exit ?_ | refine CW.condT rfl ?_ | refine CW.condF rfl ?_ | (refine CW.condD rfl (fun _ => ?_) (fun _ => ?_) <;> (try (exfalso; omega))) | (refine CW.cond rfl (fun _ => ?_) (fun _ => ?_) <;> (try (exfalso; simp only [decide_eq_true_eq, decide_eq_false_iff_not, Bool.and_eq_true, Bool.or_eq_true] at *; omega))) | with_reducible refine thenQ_n ?_ | with_reducible refine blockQ_n ?_ | ((with_reducible refine blockQ_e ?_ ?_); rfl) | ((with_reducible refine blockQ_x ?_ ?_); rfl) | with_reducible refine blockQ_r ?_ | with_reducible refine thenQ_x ?_ | with_reducible refine thenQ_r ?_ | ((fail_if_success ((with_reducible apply J.step); rfl)); (fail_if_success ((with_reducible apply J.skipU); rfl)); refine J.splitG rfl rfl (fun _ => ?_) (fun _ => ?_) <;> (try (exfalso; omega))) | ((fail_if_success ((with_reducible apply J.step); rfl)); (fail_if_success ((with_reducible apply J.skipU); rfl)); refine J.splitB rfl rfl (fun _ => ?_) (fun _ => ?_))))
      refine ⟨j+1, ?_, by omega, by (repeat' (first | exact trivial | rfl | refine And.intro ?_ ?_ | exact int_congr (by omega) | exact ints_congr (by first | assumption | exact Eq.symm (by assumption)) | exact int_congr (by assumption) | exact bool_congr (by first | assumption | exact Eq.symm (by assumption)) | exact map_congr' (by first | assumption | exact Eq.symm (by assumption))))⟩
      omega
    · obtain ⟨n1, n2, n3, n4, n5⟩ := T.node a _ hx (by simpa using hw)
      simp only at n1 n2 n3 n4 n5
      (repeat' (first | ((with_reducible apply J.step); rfl; exact FM.st) | ((with_reducible apply J.eff); rfl; exact FM.ef) | ((with_reducible apply J.eqNil); rfl; rfl; rfl; rfl; intro bnil hbnil) | (refine J.takeRow rfl rfl AV.noConfusion rfl (by first | assumption | (simp only [List.length_map]; omega)) ?_) | with_reducible refine J.nil ?_ | ((with_reducible apply J.skipV); rfl; rfl; rfl) | ((with_reducible apply J.skipU); rfl; rfl) | with_reducible refine CW.seq ?_ | with_reducible refine CW.block ?_ | ((with_reducible refine CW.reg ?_ ?_); rfl) | ((with_reducible refine CW.regQN ?_ ?_ ?_ ?_); rfl; kernel_rfl; rfl) | ((with_reducible refine CW.regS 1 ?_ ?_ ?_); kernel_rfl; rfl; simp only [List.length_cons, List.length_nil, Nat.reduceAdd, Nat.reduceSub, List.take_succ_cons, List.take_zero, List.drop_succ_cons, List.drop_zero]) | with_reducible refine CW.skip ?_ | with_reducible refine CW.ret ?_ | with_reducible refine CW.exit ?_ | refine CW.condT rfl ?_ | refine CW.condF rfl ?_ | (refine CW.condD rfl (fun _ => ?_) (fun _ => ?_) <;> (try (exfalso; omega))) | (refine CW.cond rfl (fun _ => ?_) (fun _ => ?_) <;> (try (exfalso; simp only [decide_eq_true_eq, decide_eq_false_iff_not, Bool.and_eq_true, Bool.or_eq_true] at *; omega))) | with_reducible refine thenQ_n ?_ | with_reducible refine blockQ_n ?_ | ((with_reducible refine blockQ_e ?_ ?_); rfl) | ((with_reducible refine blockQ_x ?_ ?_); rfl) | with_reducible refine blockQ_r ?_ | with_reducible refine thenQ_x ?_ | with_reducible refine thenQ_r ?_ | ((fail_if_success ((with_reducible apply J.step); rfl)); (fail_if_success ((with_reducible apply J.skipU); rfl)); refine J.splitG rfl rfl (fun _ => ?_) (fun _ => ?_) <;> (try (exfalso; omega))) | ((fail_if_success ((with_reducible apply J.step); rfl)); (fail_if_success ((with_reducible apply J.skipU); rfl)); refine J.splitB rfl rfl (fun _ => ?_) (fun _ => ?_))))
      refine CW.loop (fun k : Nat => [(1, .av (ndS l)), (8, .av (.sl true 1 ((mvL l j).map .int))), (9, .av (.sl true 1 ((pyL l j).map rwO))), (10, .av (.int (a))), (11, .av (.pt true [.int who, .sl false 1 (to.map .int), .sl false 1 (pay.map .int)])), (12, .av (.int (bt (payAt l (fun t => (eS l j t).2) who) to k))), (52, .av (.sl false 1 ((to).map .int))), (53, .av (.int (to.length))), (54, .av (.int (k)))]) (fun k => k ≤ to.length) (fun k => to.length - k) (0) ?_ (by (repeat' (first | exact trivial | rfl | refine And.intro ?_ ?_ | exact int_congr (by omega) | exact ints_congr (by first | assumption | exact Eq.symm (by assumption)) | exact int_congr (by assumption) | exact bool_congr (by first | assumption | exact Eq.symm (by assumption)) | exact map_congr' (by first | assumption | exact Eq.symm (by assumption))))) ?_
      · exact Nat.zero_le _
      intro k hk
      have hbl := bt_lt (P := payAt l (fun t => (eS l j t).2) who) k hk n2
      have hbs : bt (payAt l (fun t => (eS l j t).2) who) to (k + 1) = if payAt l (fun t => (eS l j t).2) who (to.getD (bt (payAt l (fun t => (eS l j t).2) who) to k) 0) < payAt l (fun t => (eS l j t).2) who (to.getD k 0) then k else bt (payAt l (fun t => (eS l j t).2) who) to k := rfl
      obtain ⟨t2, s1, s2, s3, s4, w2, q2, u2, s5, s6, s7, s8, s9, s10, s11⟩ := way_to T ha hlt hx hw hbl
      have g4 := pyL_get (j := j) s4 (by omega)
      rw [s7] at g4
      rw [s2] at hbs
      by_cases hkl : k < to.length
      · obtain ⟨t1, r1, r2, r3, r4, w1, q1, u1, r5, r6, r7, r8, r9, r10, r11⟩ := way_to T ha hlt hx hw hkl
        have g3 := pyL_get (j := j) r4 (by omega)
        rw [r7] at g3
        rw [r2] at hbs
        generalize payAt l (fun t => (eS l j t).2) who = P at *
        generalize bt P to k = b at *
        by_cases hc : P t2 < P t1
        · rw [if_pos hc] at hbs
          (repeat' (first | ((with_reducible apply J.step); rfl; exact FM.st) | ((with_reducible apply J.eff); rfl; exact FM.ef) | ((with_reducible apply J.eqNil); rfl; rfl; rfl; rfl; intro bnil hbnil) | (refine J.takeRow rfl rfl AV.noConfusion rfl (by first | assumption | (simp only [List.length_map]; omega)) ?_) | with_reducible refine J.nil ?_ | ((with_reducible apply J.skipV); rfl; rfl; rfl) | ((with_reducible apply J.skipU); rfl; rfl) | with_reducible refine CW.seq ?_ | with_reducible refine CW.block ?_ | ((with_reducible refine CW.reg ?_ ?_); rfl) | ((with_reducible refine CW.regQN ?_ ?_ ?_ ?_); rfl; kernel_rfl; rfl) | ((with_reducible refine CW.regS 1 ?_ ?_ ?_); kernel_rfl; rfl; simp only [List.length_cons, List.length_nil, Nat.reduceAdd, Nat.reduceSub, List.take_succ_cons, List.take_zero, List.drop_succ_cons, List.drop_zero]) | with_reducible refine CW.skip ?_ | with_reducible refine CW.ret ?_ | with_reducible refine CW.exit ?_ | refine CW.condT rfl ?_ | refine CW.condF rfl ?_ | (refine CW.condD rfl (fun _ => ?_) (fun _ => ?_) <;> (try (exfalso; omega))) | (refine CW.cond rfl (fun _ => ?_) (fun _ => ?_) <;> (try (exfalso; simp only [decide_eq_true_eq, decide_eq_false_iff_not, Bool.and_eq_true, Bool.or_eq_true] at *; omega))) | with_reducible refine thenQ_n ?_ | with_reducible refine blockQ_n ?_ | ((with_reducible refine blockQ_e ?_ ?_); rfl) | ((with_reducible refine blockQ_x ?_ ?_); rfl) | with_reducible refine blockQ_r ?_ | with_reducible refine thenQ_x ?_ | with_reducible refine thenQ_r ?_ | ((fail_if_success ((with_reducible apply J.step); rfl)); (fail_if_success ((with_reducible apply J.skipU); rfl)); refine J.splitG rfl rfl (fun _ => ?_) (fun _ => ?_) <;> (try (exfalso; omega))) | ((fail_if_success ((with_reducible apply J.step); rfl)); (fail_if_success ((with_reducible apply J.skipU); rfl)); refine J.splitB rfl rfl (fun _ => ?_) (fun _ => ?_))))
          refine ⟨k+1, ?_, by omega, by (repeat' (first | exact trivial | rfl | refine And.intro ?_ ?_ | exact int_congr (by omega) | exact ints_congr (by first | assumption | exact Eq.symm (by assumption)) | exact int_congr (by assumption) | exact bool_congr (by first | assumption | exact Eq.symm (by assumption)) | exact map_congr' (by first | assumption | exact Eq.symm (by assumption)) | (rw [hbs]; rfl)))⟩
          omega
        · rw [if_neg hc] at hbs
          (repeat' (first | ((with_reducible apply J.step); rfl; exact FM.st) | ((with_reducible apply J.eff); rfl; exact FM.ef) | ((with_reducible apply J.eqNil); rfl; rfl; rfl; rfl; intro bnil hbnil) | (refine J.takeRow rfl rfl AV.noConfusion rfl (by first | assumption | (simp only [List.length_map]; omega)) ?_) | with_reducible refine J.nil ?_ | ((with_reducible apply J.skipV); rfl; rfl; rfl) | ((with_reducible apply J.skipU); rfl; rfl) | with_reducible refine CW.seq ?_ | with_reducible refine CW.block ?_ | ((with_reducible refine CW.reg ?_ ?_); rfl) | ((with_reducible refine CW.regQN ?_ ?_ ?_ ?_); rfl; kernel_rfl; rfl) | ((with_reducible refine CW.regS 1 ?_ ?_ ?_); kernel_rfl; rfl; simp only [List.length_cons, List.length_nil, Nat.reduceAdd, Nat.reduceSub, List.take_succ_cons, List.take_zero, List.drop_succ_cons, List.drop_zero]) | with_reducible refine CW.skip ?_ | with_reducible refine CW.ret ?_ | with_reducible refine CW.exit ?_ | refine CW.condT rfl ?_ | refine CW.condF rfl ?_ | (refine CW.condD rfl (fun _ => ?_) (fun _ => ?_) <;> (try (exfalso; omega))) | (refine CW.cond rfl (fun _ => ?_) (fun _ => ?_) <;> (try (exfalso; simp only [decide_eq_true_eq, decide_eq_false_iff_not, Bool.and_eq_true, Bool.or_eq_true] at *; omega))) | with_reducible refine thenQ_n ?_ | with_reducible refine blockQ_n ?_ | ((with_reducible refine blockQ_e ?_ ?_); rfl) | ((with_reducible refine blockQ_x ?_ ?_); rfl) | with_reducible refine blockQ_r ?_ | with_reducible refine thenQ_x ?_ | with_reducible refine thenQ_r ?_ | ((fail_if_success ((with_reducible apply J.step); rfl)); (fail_if_success ((with_reducible apply J.skipU); rfl)); refine J.splitG rfl rfl (fun _ => ?_) (fun _ => ?_) <;> (try (exfalso; omega))) | ((fail_if_success ((with_reducible apply J.step); rfl)); (fail_if_success ((with_reducible apply J.skipU); rfl)); refine J.splitB rfl rfl (fun _ => ?_) (fun _ => ?_))))
          refine ⟨k+1, ?_, by omega, by (repeat' (first | exact trivial | rfl | refine And.intro ?_ ?_ | exact int_congr (by omega) | exact ints_congr (by first | assumption | exact Eq.symm (by assumption)) | exact int_congr (by assumption) | exact bool_congr (by first | assumption | exact Eq.symm (by assumption)) | exact map_congr' (by first | assumption | exact Eq.symm (by assumption)) | (rw [hbs]; rfl)))⟩
          omega
      · obtain rfl : k = to.length := by omega
        have hs := nodeSol_node (e := fun t => (eS l j t).2) hx (by simpa using hw)
        simp only at hs
        have e1 := mvL_set (v := ((bt (payAt l (fun t => (eS l j t).2) who) to to.length : Nat) : Int)) ha (by rw [hs])
        have e2 := pyL_set (v := [] ++ u2) hlt ha (by rw [hs]; simp only [List.nil_append]; rw [s2, Int.toNat_natCast, s7])
        generalize payAt l (fun t => (eS l j t).2) who = P at *
        generalize bt P to to.length = b at *
        (repeat' (first | ((with_reducible apply J.step); rfl; exact FM.st) | ((with_reducible apply J.eff); rfl; exact FM.ef) | ((with_reducible apply J.eqNil); rfl; rfl; rfl; rfl; intro bnil hbnil) | (refine J.takeRow rfl rfl AV.noConfusion rfl (by first | assumption | (simp only [List.length_map]; omega)) ?_) | with_reducible refine J.nil ?_ | ((with_reducible apply J.skipV); rfl; rfl; rfl) | ((with_reducible apply J.skipU); rfl; rfl) | with_reducible refine CW.seq ?_ | with_reducible refine CW.block ?_ | ((with_reducible refine CW.reg ?_ ?_); rfl) | ((with_reducible refine CW.regQN ?_ ?_ ?_ ?_); rfl; kernel_rfl; rfl) | ((with_reducible refine CW.regS 1 ?_ ?_ ?_); kernel_rfl; rfl; simp only [List.length_cons, List.length_nil, Nat.reduceAdd, Nat.reduceSub, List.take_succ_cons, List.take_zero, List.drop_succ_cons, List.drop_zero]) | with_reducible refine CW.skip ?_ | with_reducible refine CW.ret ?_ | with_reducible refine CW.exit ?_ | refine CW.condT rfl ?_ | refine CW.condF rfl ?_ | (refine CW.condD rfl (fun _ => ?_) (fun _ => ?_) <;> (try (exfalso; omega))) | (refine CW.cond rfl (fun _ => ?_) (fun _ => ?_) <;> (try (exfalso; simp only [decide_eq_true_eq, decide_eq_false_iff_not, Bool.and_eq_true, Bool.or_eq_true] at *; omega))) | with_reducible refine thenQ_n ?_ | with_reducible refine blockQ_n ?_ | ((with_reducible refine blockQ_e ?_ ?_); rfl) | ((with_reducible refine blockQ_x ?_ ?_); rfl) | with_reducible refine blockQ_r ?_ | with_reducible refine thenQ_x ?_ | with_reducible refine thenQ_r ?_ | ((fail_if_success ((with_reducible apply J.step); rfl)); (fail_if_success ((with_reducible apply J.skipU); rfl)); refine J.splitG rfl rfl (fun _ => ?_) (fun _ => ?_) <;> (try (exfalso; omega))) | ((fail_if_success ((with_reducible apply J.step); rfl)); (fail_if_success ((with_reducible apply J.skipU); rfl)); refine J.splitB rfl rfl (fun _ => ?_) (fun _ => ?_))))
        refine ⟨j+1, ?_, by omega, by (repeat' (first | exact trivial | rfl | refine And.intro ?_ ?_ | exact int_congr (by omega) | exact ints_congr (by first | assumption | exact Eq.symm (by assumption)) | exact int_congr (by assumption) | exact bool_congr (by first | assumption | exact Eq.symm (by assumption)) | exact map_congr' (by first | assumption | exact Eq.symm (by assumption))))⟩
        omega
  · obtain rfl : j = l.length := by omega
    (repeat' (first | ((with_reducible apply J.step); rfl; exact FM.st) | ((with_reducible apply J.eff); rfl; exact FM.ef) | ((with_reducible apply J.eqNil); rfl; rfl; rfl; rfl; intro bnil hbnil) | (refine J.takeRow rfl rfl AV.noConfusion rfl (by first | assumption | (simp only [List.length_map]; omega)) ?_) | with_reducible refine J.nil ?_ | ((with_reducible apply J.skipV); rfl; rfl; rfl) | ((with_reducible apply J.skipU); rfl; rfl) | with_reducible refine CW.seq ?_ | with_reducible refine CW.block ?_ | ((with_reducible refine CW.reg ?_ ?_); rfl) | ((with_reducible refine CW.regQN ?_ ?_ ?_ ?_); rfl; kernel_rfl; rfl) | ((with_reducible refine CW.regS 1 ?_ ?_ ?_); kernel_rfl; rfl; simp only [List.length_cons, List.length_nil, Nat.reduceAdd, Nat.reduceSub, List.take_succ_cons, List.take_zero, List.drop_succ_cons, List.drop_zero]) | with_reducible refine CW.skip ?_ | with_reducible refine CW.ret ?_ | with_reducible refine CW.exit ?_ | refine CW.condT rfl ?_ | refine CW.condF rfl ?_ | (refine CW.condD rfl (fun _ => ?_) (fun _ => ?_) <;> (try (exfalso; omega))) | (refine CW.cond rfl (fun _ => ?_) (fun _ => ?_) <;> (try (exfalso; simp only [decide_eq_true_eq, decide_eq_false_iff_not, Bool.and_eq_true, Bool.or_eq_true] at *; omega))) | with_reducible refine thenQ_n ?_ | with_reducible refine blockQ_n ?_ | ((with_reducible refine blockQ_e ?_ ?_); rfl) | ((with_reducible refine blockQ_x ?_ ?_); rfl) | with_reducible refine blockQ_r ?_ | with_reducible refine thenQ_x ?_ | with_reducible refine thenQ_r ?_ | ((fail_if_success ((with_reducible apply J.step); rfl)); (fail_if_success ((with_reducible apply J.skipU); rfl)); refine J.splitG rfl rfl (fun _ => ?_) (fun _ => ?_) <;> (try (exfalso; omega))) | ((fail_if_success ((with_reducible apply J.step); rfl)); (fail_if_success ((with_reducible apply J.skipU); rfl)); refine J.splitB rfl rfl (fun _ => ?_) (fun _ => ?_))))
    exact .mk rfl rfl rfl
end Go.Proofs.Ytioodlkigdklhaa
