/- plumekeep.OrderOf: some order of the sides. -/
import Derived.Test.YtohgcgedbhlnfaaDd
import Derived.Test.YtohgcgedbhlnfaaIo
import Derived.Test.YtohgcgedbhlnfaaKo
namespace Go.Proofs.Ytohgcgedbhlnfaa
open Go FM
set_option maxRecDepth 10000
set_option maxHeartbeats 3200000
set_option linter.all false
/-- Which of those left is taken next. -/
def orK (l : List Int) (i : Nat) (left : List Int) : Nat := if i < l.length then (l.getD i 0 % (left.length : Int)).toNat else 0
def orS (n : Nat) (l : List Int) : Nat → List Int × List Int
  | 0 => (iota n, [])
  | i + 1 => let s := orS n l i; let k := orK l i s.1; (s.1.take k ++ s.1.drop (k + 1), s.2 ++ [s.1.getD k 0])
theorem orK_lt {l : List Int} {i : Nat} {left : List Int} (h : 1 ≤ left.length) : orK l i left < left.length := by
  unfold orK
  split
  · have := Int.emod_lt_of_pos (l.getD i 0) (show (0 : Int) < left.length by omega)
    have := Int.emod_nonneg (l.getD i 0) (show (left.length : Int) ≠ 0 by omega)
    omega
  · omega
theorem orS_len {n : Nat} {l : List Int} : ∀ i, i ≤ n → (orS n l i).1.length = n - i ∧ (orS n l i).2.length = i
  | 0, _ => by simp [orS, iota]
  | i + 1, h => by
    obtain ⟨h1, h2⟩ := orS_len (n := n) (l := l) i (by omega)
    have hk := orK_lt (l := l) (i := i) (left := (orS n l i).1) (by omega)
    simp only [orS]
    generalize orK l i (orS n l i).1 = k at *
    generalize orS n l i = s at *
    rw [List.length_append, List.length_take, List.length_drop, List.length_append]
    simp only [List.length_cons, List.length_nil]
    omega
theorem orS_perm {n : Nat} {l : List Int} : ∀ i, i ≤ n → ((orS n l i).2 ++ (orS n l i).1).Perm (iota n)
  | 0, _ => by simp [orS]
  | i + 1, h => by
    obtain ⟨h1, h2⟩ := orS_len (n := n) (l := l) i (by omega)
    have hk := orK_lt (l := l) (i := i) (left := (orS n l i).1) (by omega)
    have ih := orS_perm (n := n) (l := l) i (by omega)
    simp only [orS]
    generalize orK l i (orS n l i).1 = k at *
    generalize orS n l i = s at *
    refine List.Perm.trans ?_ ih
    rw [List.append_assoc]
    refine List.Perm.append_left _ ?_
    have e : s.1 = s.1.take k ++ (s.1.getD k 0 :: s.1.drop (k + 1)) := by
      have h3 := List.take_append_drop k s.1
      rw [List.drop_eq_getElem_cons hk] at h3
      rw [List.getD_eq_getElem?_getD, List.getElem?_eq_getElem hk]
      exact h3.symm
    conv => rhs; rw [e]
    show List.Perm (s.1.getD k 0 :: (s.1.take k ++ s.1.drop (k + 1))) _
    exact List.perm_middle.symm
theorem orderOf_spec (n : Nat) (l : List Int) (hn : 1 ≤ n ∧ n ≤ 6) (hl : l.length ≤ 9223372036854775807) (hS : FnSpec Sy.P 12 [.int n] [.int n] (.sl true 1 ((iota n).map .int))) : FnSpec Sy.P 27 [.int n, .sl false 1 ((l).map .int)] [.int n, .sl false 1 ((l).map .int)] (.sl true 1 (((orS n l n).2).map .int)) := by
  refine FnSpec.enter (S := Sy) 0 Try.func27 rfl rfl rfl Try.ntmps27 rfl rfl rfl rfl fun v0 => ?_
  (repeat' (first | ((with_reducible apply J.step); rfl; exact FM.st) | ((with_reducible apply J.eff); rfl; exact FM.ef) | ((with_reducible apply J.callP (hS)); rfl; rfl; (repeat' (first | exact ArgsOk.nil | apply ArgsOk.cons | exact ArgOk.pl rfl rfl | exact ArgOk.br rfl AV.noConfusion (by first | rfl | exact sh_int | exact sh_rows | exact sh_rowsO | exact sh_box | exact sh_map (fun _ => rfl)))); (first | rfl | exact (fun h => Bool.noConfusion h) | exact (fun _ => noSh_ints) | exact (fun _ => noSh_strs) | exact (fun _ => NoSh.str) | exact (fun _ => noSh_rows) | exact (fun _ => NoSh.int) | exact (fun _ => NoSh.bool) | exact (fun _ => NoSh.nil) | exact (fun _ => noSh_tup2 (by first | exact noSh_ints | exact noSh_strs | exact NoSh.str | exact noSh_rows | exact NoSh.nil | exact NoSh.int | exact NoSh.bool) (by first | exact noSh_ints | exact noSh_strs | exact NoSh.str | exact NoSh.int | exact NoSh.bool | exact noSh_rows | exact NoSh.nil)) | exact (fun _ => noSh_tup3 (by first | exact noSh_ints | exact noSh_strs | exact NoSh.str | exact noSh_rows | exact NoSh.nil | exact NoSh.int | exact NoSh.bool) (by first | exact noSh_ints | exact noSh_strs | exact NoSh.str | exact NoSh.int | exact NoSh.bool | exact noSh_rows | exact NoSh.nil) (by first | exact noSh_ints | exact noSh_strs | exact NoSh.str | exact NoSh.int | exact NoSh.bool | exact noSh_rows | exact NoSh.nil)))) | ((with_reducible apply J.callPQ (hS)); rfl; rfl; (repeat' (first | exact ArgsOk.nil | apply ArgsOk.cons | exact ArgOk.pl rfl rfl | exact ArgOk.br rfl AV.noConfusion (by first | rfl | exact sh_int | exact sh_rows | exact sh_rowsO | exact sh_box | exact sh_map (fun _ => rfl)))); rfl) | ((with_reducible apply J.eqNil); rfl; rfl; rfl; rfl; intro bnil hbnil) | (refine J.takeRow rfl rfl AV.noConfusion rfl (by first | assumption | (simp only [List.length_map]; omega)) ?_) | with_reducible refine J.nil ?_ | ((with_reducible apply J.skipV); rfl; rfl; rfl) | ((with_reducible apply J.skipU); rfl; rfl) | with_reducible refine CW.seq ?_ | with_reducible refine CW.block ?_ | ((with_reducible refine CW.reg ?_ ?_); rfl) | ((with_reducible refine CW.regQN ?_ ?_ ?_ ?_); rfl; kernel_rfl; rfl) | ((with_reducible refine CW.regS 1 ?_ ?_ ?_); kernel_rfl; rfl; simp only [List.length_cons, List.length_nil, Nat.reduceAdd, Nat.reduceSub, List.take_succ_cons, List.take_zero, List.drop_succ_cons, List.drop_zero]) | with_reducible refine CW.skip ?_ | with_reducible refine CW.ret ?_ | with_reducible refine CW.exit ?_ | refine CW.condT rfl ?_ | refine CW.condF rfl ?_ | (refine CW.condD rfl (fun _ => ?_) (fun _ => ?_) <;> (try (exfalso; omega))) | (refine CW.cond rfl (fun _ => ?_) (fun _ => ?_) <;> (try (exfalso; simp only [decide_eq_true_eq, decide_eq_false_iff_not, Bool.and_eq_true, Bool.or_eq_true] at *; omega))) | with_reducible refine thenQ_n ?_ | with_reducible refine blockQ_n ?_ | ((with_reducible refine blockQ_e ?_ ?_); rfl) | ((with_reducible refine blockQ_x ?_ ?_); rfl) | with_reducible refine blockQ_r ?_ | with_reducible refine thenQ_x ?_ | with_reducible refine thenQ_r ?_ | ((fail_if_success ((with_reducible apply J.step); rfl)); (fail_if_success ((with_reducible apply J.skipU); rfl)); refine J.splitG rfl rfl (fun _ => ?_) (fun _ => ?_) <;> (try (exfalso; omega))) | ((fail_if_success ((with_reducible apply J.step); rfl)); (fail_if_success ((with_reducible apply J.skipU); rfl)); refine J.splitB rfl rfl (fun _ => ?_) (fun _ => ?_))))
  all_goals first | (exfalso; omega) | skip
  refine CW.own 6 1 rfl ?_
  refine CW.loop (fun i : Nat => [(0, .av (.int (n))), (1, .av (.sl false 1 ((l).map .int))), (5, .av (.sl true 1 (((orS n l i).1).map .int))), (6, .av (.sl true 1 (((orS n l i).2).map .int))), (11, .av (.int (n))), (12, .av (.int (i)))]) (fun i => i ≤ n) (fun i => n - i) (0) ?_ (by (repeat' (first | exact trivial | rfl | refine And.intro ?_ ?_ | exact int_congr (by omega) | exact ints_congr (by first | assumption | exact Eq.symm (by assumption)) | exact int_congr (by assumption) | exact bool_congr (by first | assumption | exact Eq.symm (by assumption)) | exact map_congr' (by first | assumption | exact Eq.symm (by assumption))))) ?_
  · exact Nat.zero_le _
  intro i hi
  obtain ⟨h1, h2⟩ := orS_len (n := n) (l := l) i hi
  by_cases hil : i < n
  · have hk := orK_lt (l := l) (i := i) (left := (orS n l i).1) (by omega)
    have e1 : (orS n l (i + 1)).1 = (orS n l i).1.take (orK l i (orS n l i).1) ++ (orS n l i).1.drop (orK l i (orS n l i).1 + 1) := rfl
    have e2 : (orS n l (i + 1)).2 = (orS n l i).2 ++ [(orS n l i).1.getD (orK l i (orS n l i).1) 0] := rfl
    generalize hL : (orS n l i).1 = L at *
    generalize hO : (orS n l i).2 = O at *
    have hg : L[orK l i L]? = some (L.getD (orK l i L) 0) := by rw [List.getD_eq_getElem?_getD, List.getElem?_eq_getElem hk]; rfl
    by_cases hc : i < l.length
    · have hx : l[i]? = some l[i] := List.getElem?_eq_getElem hc
      have hw := W.within_spec l[i] L.length (by omega)
      have hke : l[i] % (L.length : Int) = ((orK l i L : Nat) : Int) := by
        have := Int.emod_nonneg l[i] (show (L.length : Int) ≠ 0 by omega)
        unfold orK
        rw [if_pos hc, List.getD_eq_getElem?_getD, hx, Option.getD_some]
        omega
      rw [hke] at hw
      generalize orK l i L = k at *
      generalize L.getD k 0 = y at *
      generalize l[i] = x at *
      (repeat' (first | (refine delOneJ (k := k) rfl rfl rfl hk (by omega) rfl rfl rfl ?_) | ((with_reducible apply J.step); rfl; exact FM.st) | ((with_reducible apply J.eff); rfl; exact FM.ef) | ((with_reducible apply J.callP (hw)); rfl; rfl; (repeat' (first | exact ArgsOk.nil | apply ArgsOk.cons | exact ArgOk.pl rfl rfl | exact ArgOk.br rfl AV.noConfusion (by first | rfl | exact sh_int | exact sh_rows | exact sh_rowsO | exact sh_box | exact sh_map (fun _ => rfl)))); (first | rfl | exact (fun h => Bool.noConfusion h) | exact (fun _ => noSh_ints) | exact (fun _ => noSh_strs) | exact (fun _ => NoSh.str) | exact (fun _ => noSh_rows) | exact (fun _ => NoSh.int) | exact (fun _ => NoSh.bool) | exact (fun _ => NoSh.nil) | exact (fun _ => noSh_tup2 (by first | exact noSh_ints | exact noSh_strs | exact NoSh.str | exact noSh_rows | exact NoSh.nil | exact NoSh.int | exact NoSh.bool) (by first | exact noSh_ints | exact noSh_strs | exact NoSh.str | exact NoSh.int | exact NoSh.bool | exact noSh_rows | exact NoSh.nil)) | exact (fun _ => noSh_tup3 (by first | exact noSh_ints | exact noSh_strs | exact NoSh.str | exact noSh_rows | exact NoSh.nil | exact NoSh.int | exact NoSh.bool) (by first | exact noSh_ints | exact noSh_strs | exact NoSh.str | exact NoSh.int | exact NoSh.bool | exact noSh_rows | exact NoSh.nil) (by first | exact noSh_ints | exact noSh_strs | exact NoSh.str | exact NoSh.int | exact NoSh.bool | exact noSh_rows | exact NoSh.nil)))) | ((with_reducible apply J.callPQ (hw)); rfl; rfl; (repeat' (first | exact ArgsOk.nil | apply ArgsOk.cons | exact ArgOk.pl rfl rfl | exact ArgOk.br rfl AV.noConfusion (by first | rfl | exact sh_int | exact sh_rows | exact sh_rowsO | exact sh_box | exact sh_map (fun _ => rfl)))); rfl) | ((with_reducible apply J.eqNil); rfl; rfl; rfl; rfl; intro bnil hbnil) | (refine J.takeRow rfl rfl AV.noConfusion rfl (by first | assumption | (simp only [List.length_map]; omega)) ?_) | with_reducible refine J.nil ?_ | ((with_reducible apply J.skipV); rfl; rfl; rfl) | ((with_reducible apply J.skipU); rfl; rfl) | with_reducible refine CW.seq ?_ | with_reducible refine CW.block ?_ | ((with_reducible refine CW.reg ?_ ?_); rfl) | ((with_reducible refine CW.regQN ?_ ?_ ?_ ?_); rfl; kernel_rfl; rfl) | ((with_reducible refine CW.regS 1 ?_ ?_ ?_); kernel_rfl; rfl; simp only [List.length_cons, List.length_nil, Nat.reduceAdd, Nat.reduceSub, List.take_succ_cons, List.take_zero, List.drop_succ_cons, List.drop_zero]) | with_reducible refine CW.skip ?_ | with_reducible refine CW.ret ?_ | with_reducible refine CW.exit ?_ | refine CW.condT rfl ?_ | refine CW.condF rfl ?_ | (refine CW.condD rfl (fun _ => ?_) (fun _ => ?_) <;> (try (exfalso; omega))) | (refine CW.cond rfl (fun _ => ?_) (fun _ => ?_) <;> (try (exfalso; simp only [decide_eq_true_eq, decide_eq_false_iff_not, Bool.and_eq_true, Bool.or_eq_true] at *; omega))) | with_reducible refine thenQ_n ?_ | with_reducible refine blockQ_n ?_ | ((with_reducible refine blockQ_e ?_ ?_); rfl) | ((with_reducible refine blockQ_x ?_ ?_); rfl) | with_reducible refine blockQ_r ?_ | with_reducible refine thenQ_x ?_ | with_reducible refine thenQ_r ?_ | ((fail_if_success ((with_reducible apply J.step); rfl)); (fail_if_success ((with_reducible apply J.skipU); rfl)); refine J.splitG rfl rfl (fun _ => ?_) (fun _ => ?_) <;> (try (exfalso; omega))) | ((fail_if_success ((with_reducible apply J.step); rfl)); (fail_if_success ((with_reducible apply J.skipU); rfl)); refine J.splitB rfl rfl (fun _ => ?_) (fun _ => ?_))))
      all_goals first | (exfalso; omega) | skip
      refine ⟨i+1, ?_, by first | omega | (simp only; omega), by (repeat' (first | exact trivial | rfl | refine And.intro ?_ ?_ | exact int_congr (by omega) | exact ints_congr (by first | assumption | exact Eq.symm (by assumption)) | exact int_congr (by assumption) | exact bool_congr (by first | assumption | exact Eq.symm (by assumption)) | exact map_congr' (by first | assumption | exact Eq.symm (by assumption)) | exact ints_congr e1.symm | exact ints_congr e2.symm))⟩
      omega
    · have hk0 : orK l i L = 0 := by unfold orK; rw [if_neg hc]
      rw [hk0] at e1 e2 hg hk
      generalize L.getD 0 0 = y at *
      (repeat' (first | (refine delOneJ (k := 0) rfl rfl rfl hk (by omega) rfl rfl rfl ?_) | ((with_reducible apply J.step); rfl; exact FM.st) | ((with_reducible apply J.eff); rfl; exact FM.ef) | ((with_reducible apply J.eqNil); rfl; rfl; rfl; rfl; intro bnil hbnil) | (refine J.takeRow rfl rfl AV.noConfusion rfl (by first | assumption | (simp only [List.length_map]; omega)) ?_) | with_reducible refine J.nil ?_ | ((with_reducible apply J.skipV); rfl; rfl; rfl) | ((with_reducible apply J.skipU); rfl; rfl) | with_reducible refine CW.seq ?_ | with_reducible refine CW.block ?_ | ((with_reducible refine CW.reg ?_ ?_); rfl) | ((with_reducible refine CW.regQN ?_ ?_ ?_ ?_); rfl; kernel_rfl; rfl) | ((with_reducible refine CW.regS 1 ?_ ?_ ?_); kernel_rfl; rfl; simp only [List.length_cons, List.length_nil, Nat.reduceAdd, Nat.reduceSub, List.take_succ_cons, List.take_zero, List.drop_succ_cons, List.drop_zero]) | with_reducible refine CW.skip ?_ | with_reducible refine CW.ret ?_ | with_reducible refine CW.exit ?_ | refine CW.condT rfl ?_ | refine CW.condF rfl ?_ | (refine CW.condD rfl (fun _ => ?_) (fun _ => ?_) <;> (try (exfalso; omega))) | (refine CW.cond rfl (fun _ => ?_) (fun _ => ?_) <;> (try (exfalso; simp only [decide_eq_true_eq, decide_eq_false_iff_not, Bool.and_eq_true, Bool.or_eq_true] at *; omega))) | with_reducible refine thenQ_n ?_ | with_reducible refine blockQ_n ?_ | ((with_reducible refine blockQ_e ?_ ?_); rfl) | ((with_reducible refine blockQ_x ?_ ?_); rfl) | with_reducible refine blockQ_r ?_ | with_reducible refine thenQ_x ?_ | with_reducible refine thenQ_r ?_ | ((fail_if_success ((with_reducible apply J.step); rfl)); (fail_if_success ((with_reducible apply J.skipU); rfl)); refine J.splitG rfl rfl (fun _ => ?_) (fun _ => ?_) <;> (try (exfalso; omega))) | ((fail_if_success ((with_reducible apply J.step); rfl)); (fail_if_success ((with_reducible apply J.skipU); rfl)); refine J.splitB rfl rfl (fun _ => ?_) (fun _ => ?_))))
      all_goals first | (exfalso; omega) | skip
      refine ⟨i+1, ?_, by first | omega | (simp only; omega), by (repeat' (first | exact trivial | rfl | refine And.intro ?_ ?_ | exact int_congr (by omega) | exact ints_congr (by first | assumption | exact Eq.symm (by assumption)) | exact int_congr (by assumption) | exact bool_congr (by first | assumption | exact Eq.symm (by assumption)) | exact map_congr' (by first | assumption | exact Eq.symm (by assumption)) | exact ints_congr e1.symm | exact ints_congr e2.symm))⟩
      omega
  · obtain rfl : i = n := by omega
    (repeat' (first | ((with_reducible apply J.step); rfl; exact FM.st) | ((with_reducible apply J.eff); rfl; exact FM.ef) | ((with_reducible apply J.eqNil); rfl; rfl; rfl; rfl; intro bnil hbnil) | (refine J.takeRow rfl rfl AV.noConfusion rfl (by first | assumption | (simp only [List.length_map]; omega)) ?_) | with_reducible refine J.nil ?_ | ((with_reducible apply J.skipV); rfl; rfl; rfl) | ((with_reducible apply J.skipU); rfl; rfl) | with_reducible refine CW.seq ?_ | with_reducible refine CW.block ?_ | ((with_reducible refine CW.reg ?_ ?_); rfl) | ((with_reducible refine CW.regQN ?_ ?_ ?_ ?_); rfl; kernel_rfl; rfl) | ((with_reducible refine CW.regS 1 ?_ ?_ ?_); kernel_rfl; rfl; simp only [List.length_cons, List.length_nil, Nat.reduceAdd, Nat.reduceSub, List.take_succ_cons, List.take_zero, List.drop_succ_cons, List.drop_zero]) | with_reducible refine CW.skip ?_ | with_reducible refine CW.ret ?_ | with_reducible refine CW.exit ?_ | refine CW.condT rfl ?_ | refine CW.condF rfl ?_ | (refine CW.condD rfl (fun _ => ?_) (fun _ => ?_) <;> (try (exfalso; omega))) | (refine CW.cond rfl (fun _ => ?_) (fun _ => ?_) <;> (try (exfalso; simp only [decide_eq_true_eq, decide_eq_false_iff_not, Bool.and_eq_true, Bool.or_eq_true] at *; omega))) | with_reducible refine thenQ_n ?_ | with_reducible refine blockQ_n ?_ | ((with_reducible refine blockQ_e ?_ ?_); rfl) | ((with_reducible refine blockQ_x ?_ ?_); rfl) | with_reducible refine blockQ_r ?_ | with_reducible refine thenQ_x ?_ | with_reducible refine thenQ_r ?_ | ((fail_if_success ((with_reducible apply J.step); rfl)); (fail_if_success ((with_reducible apply J.skipU); rfl)); refine J.splitG rfl rfl (fun _ => ?_) (fun _ => ?_) <;> (try (exfalso; omega))) | ((fail_if_success ((with_reducible apply J.step); rfl)); (fail_if_success ((with_reducible apply J.skipU); rfl)); refine J.splitB rfl rfl (fun _ => ?_) (fun _ => ?_))))
    all_goals first | (exfalso; omega) | exact .mk rfl rfl rfl
end Go.Proofs.Ytohgcgedbhlnfaa
