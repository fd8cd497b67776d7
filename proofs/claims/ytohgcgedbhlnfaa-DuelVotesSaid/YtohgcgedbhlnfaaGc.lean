/- The library's joining of rows. -/
import Derived.Test.YtohgcgedbhlnfaaLw
import Derived.Test.YtohgcgedbhlnfaaCl
namespace Go.Proofs.Ytohgcgedbhlnfaa
open Go FM Go.Proofs
set_option maxRecDepth 10000
set_option maxHeartbeats 1600000
set_option linter.all false
theorem grow_spec (n : Nat) (h1 : 1 ≤ n) (h2 : n ≤ 1000000) : FnSpec Sy.P 49 [.nil, .int n] [.nil, .int n] (.sl true 1 []) := by
  refine ⟨⟨_, Try.func49, rfl, rfl⟩, fun w L vs hvs hpre hargs => ?_⟩
  match vs, hvs with
  | [v0, v1], _ =>
  have r0 := hargs 0 _ v0 rfl rfl
  have r1 := hargs 1 _ v1 rfl rfl
  cases r0; cases r1
  obtain ⟨f, zv, hf1, hf2, hf3, hf4, hf5, hf6, hf7⟩ := (Sy.ok 3 ⟨.int .i64, 1, 8, [.int 0]⟩ rfl).info
  have hz1 : zv.cells.size = 1 := by rw [← Array.length_toList, hf5]; rfl
  have hcon := Any8.slices_Grow_grow lgrow f zv hf1 hf4 (by rw [hf2]; decide) none 0 0 n [] w (Nat.le_refl _) (by omega) (by rw [Nat.zero_add, show f.bytes = 8 from hf3]; omega) (by omega) (by simp) (fun _ => rfl) (fun a h => by cases h)
  refine hcon.mono fun e w' ⟨he, hw⟩ => ?_
  rw [Nat.zero_add] at he hw
  have hge : n ≤ Go.grownCap w n 0 3 := Go.grownCap_ge w _ _ _
  change e = .returned (.slice (some ⟨w.heap.size, 0, none⟩) 0 (Go.grownCap w n 0 3)) at he
  change w' = w.drew.alloc (.cells (#[] ++ Builtin.zeroCells zv.cells (n - 0) ++ Builtin.zeroCells zv.cells (Go.grownCap w n 0 3 - n)) 3) at hw
  generalize Go.grownCap w n 0 3 = cap at *
  obtain ⟨arr, harr⟩ : ∃ arr, arr = #[] ++ Builtin.zeroCells zv.cells (n - 0) ++ Builtin.zeroCells zv.cells (cap - n) := ⟨_, rfl⟩
  rw [← harr] at hw
  have has : arr.size = cap * 1 := by
    rw [harr]
    simp [Builtin.zeroCells, hz1]
    omega
  have hnb : w'.heap[w.heap.size]? = some (.cells arr 3 (0, 0)) := by rw [hw]; exact heap_alloc_new w.drew _
  have hws : w'.heap.size = w.heap.size + 1 := by rw [hw]; exact Array.size_push ..
  have hwk : ∀ b, b < w.heap.size → w'.heap[b]? = w.heap[b]? := fun b hb => by
    rw [hw]
    show (w.heap.push _)[b]? = _
    rw [Array.getElem?_push_lt hb, Array.getElem?_eq_getElem hb]
  have hwo : w'.os = w.os := by rw [hw]; rfl
  have hwt : w'.tape = w.tape := by rw [hw]; rfl
  have hwu : w'.output = w.output := by rw [hw]; rfl
  clear hw harr hcon
  obtain ⟨L', hL'⟩ : ∃ L' : Nat → Lab, L' = fun b' => if b' = w.heap.size then .my [2] else L b' := ⟨_, rfl⟩
  have l1 : L' w.heap.size = .my [2] := by rw [hL']; simp
  have l2 : ∀ b', b' ≠ w.heap.size → L' b' = L b' := fun b' h => by rw [hL']; simp [h]
  clear hL'
  have hpre' : Pre 2 L w := hpre
  have lno : ∀ b', L b' ≠ .my [2] := fun b' h => by obtain ⟨i, q, e1, e2⟩ := hpre'.head b' _ h; cases e1; omega
  have lt' : ∀ b' p, L' b' = .my p → b' < w'.heap.size := fun b' p hp => by
    by_cases e : b' = w.heap.size
    · omega
    · rw [l2 b' e] at hp; have := hpre'.lt b' p hp; omega
  refine ⟨_, L', he, ⟨hwo, hwt, hwu, by omega, fun b hb _ => hwk b hb⟩, ⟨lt', fun b1 b2 p h1 h2 => ?_, fun b' p hp e => ?_, fun b' p hlt hp => ?_, fun b' hlt => ?_, fun b' h1 h2 => ?_⟩, fun b' p hp => ?_, fun i x u hx hu => ?_, ?_⟩
  · by_cases e1 : b1 = w.heap.size
    · subst e1
      rw [l1] at h1; cases h1
      by_cases e2 : b2 = w.heap.size
      · exact e2.symm
      · rw [l2 b2 e2] at h2; exact absurd h2 (lno b2)
    · rw [l2 b1 e1] at h1
      by_cases e2 : b2 = w.heap.size
      · subst e2
        rw [l1] at h2; cases h2
        exact absurd h1 (lno b1)
      · rw [l2 b2 e2] at h2; exact hpre'.inj b1 b2 p h1 h2
  · subst e
    by_cases e : b' = w.heap.size
    · subst e; rw [l1] at hp; cases hp
    · rw [l2 b' e] at hp; obtain ⟨i, q, h, _⟩ := hpre'.head b' [] hp; cases h
  · rw [l2 b' (by omega)] at hp; exact ⟨p, hp⟩
  · rw [l2 b' (by omega)]
  · by_cases e : b' = w.heap.size
    · subst e; rw [l1] at h2; cases h2
    · rw [l2 b' e] at h2; exact hpre'.new b' h1 h2
  · by_cases e : b' = w.heap.size
    · subst e; rw [l1] at hp; cases hp; exact ⟨2, [], rfl, Nat.le_refl _⟩
    · rw [l2 b' e] at hp; obtain ⟨i, q, h, h2⟩ := hpre'.head b' p hp; exact ⟨i, q, h, Nat.le_of_lt h2⟩
  · match i with
    | 0 =>
      simp only [List.getElem?_cons_zero, Option.some.injEq] at hx hu
      subst hx; subst hu; exact .nil
    | 1 =>
      simp only [List.getElem?_cons_succ, List.getElem?_cons_zero, Option.some.injEq] at hx hu
      subst hx; subst hu; exact .int
    | i + 2 => simp at hx
  · exact .slO (xs := []) (fun _ => undef) l1 hnb (Nat.zero_le _) has (fun x hx => by cases hx) (fun o ho => by simp at ho) (fun o y hy => by simp [flat] at hy)
theorem sumLen_take {M : List (List Int)} {k : Nat} (h : k < M.length) : ((M.take (k + 1)).flatten).length = ((M.take k).flatten).length + M[k].length := by
  rw [List.take_succ_eq_append_getElem h, List.flatten_append, List.length_append]; simp
theorem flat_take {M : List (List Int)} {k : Nat} (h : k < M.length) : (M.take (k + 1)).flatten = (M.take k).flatten ++ M[k] := by
  rw [List.take_succ_eq_append_getElem h, List.flatten_append]; simp
theorem flat_le {M : List (List Int)} : ∀ k, ((M.take k).flatten).length ≤ M.flatten.length := fun k => by
  have h := congrArg (fun l => (List.flatten l).length) (List.take_append_drop k M)
  simp only [List.flatten_append, List.length_append] at h
  omega
theorem concat_spec (M : List (List Int)) (h1 : 1 ≤ M.flatten.length) (h2 : M.flatten.length ≤ 1000000) (hM : M.length ≤ 1000000) : FnSpec Sy.P 14 [.sl false 1 ((M).map rwS)] [.sl false 1 ((M).map rwS)] (.sl true 1 ((M.flatten).map .int)) := by
  have hG := grow_spec M.flatten.length h1 h2
  refine FnSpec.enter (S := Sy) 0 Try.func14 rfl rfl rfl Try.ntmps14 rfl rfl rfl rfl fun v0 => ?_
  (repeat' (first | ((with_reducible apply J.step); rfl; exact FM.st) | ((with_reducible apply J.eff); rfl; exact FM.ef) | ((with_reducible apply J.eqNil); rfl; rfl; rfl; rfl; intro bnil hbnil) | (refine J.takeRow rfl rfl AV.noConfusion rfl (by first | assumption | (simp only [List.length_map]; omega)) ?_) | with_reducible refine J.nil ?_ | ((with_reducible apply J.skipV); rfl; rfl; rfl) | ((with_reducible apply J.skipU); rfl; rfl) | with_reducible refine CW.seq ?_ | with_reducible refine CW.block ?_ | ((with_reducible refine CW.reg ?_ ?_); rfl) | ((with_reducible refine CW.regQN ?_ ?_ ?_ ?_); rfl; kernel_rfl; rfl) | ((with_reducible refine CW.regS 1 ?_ ?_ ?_); kernel_rfl; rfl; simp only [List.length_cons, List.length_nil, Nat.reduceAdd, Nat.reduceSub, List.take_succ_cons, List.take_zero, List.drop_succ_cons, List.drop_zero]) | with_reducible refine CW.skip ?_ | with_reducible refine CW.ret ?_ | with_reducible refine CW.exit ?_ | refine CW.condT rfl ?_ | refine CW.condF rfl ?_ | (refine CW.condD rfl (fun _ => ?_) (fun _ => ?_) <;> (try (exfalso; omega))) | (refine CW.cond rfl (fun _ => ?_) (fun _ => ?_) <;> (try (exfalso; simp only [decide_eq_true_eq, decide_eq_false_iff_not, Bool.and_eq_true, Bool.or_eq_true] at *; omega))) | with_reducible refine thenQ_n ?_ | with_reducible refine blockQ_n ?_ | ((with_reducible refine blockQ_e ?_ ?_); rfl) | ((with_reducible refine blockQ_x ?_ ?_); rfl) | with_reducible refine blockQ_r ?_ | with_reducible refine thenQ_x ?_ | with_reducible refine thenQ_r ?_ | ((fail_if_success ((with_reducible apply J.step); rfl)); (fail_if_success ((with_reducible apply J.skipU); rfl)); refine J.splitG rfl rfl (fun _ => ?_) (fun _ => ?_) <;> (try (exfalso; omega))) | ((fail_if_success ((with_reducible apply J.step); rfl)); (fail_if_success ((with_reducible apply J.skipU); rfl)); refine J.splitB rfl rfl (fun _ => ?_) (fun _ => ?_))))
  all_goals first | (exfalso; omega) | skip
  refine CW.loop (fun k : Nat => [(0, .av (.sl false 1 ((M).map rwS))), (3, .av (.int (((M.take k).flatten).length))), (9, .av (.sl false 1 ((M).map rwS))), (10, .av (.int (M.length))), (11, .av (.int (k)))]) (fun k => k ≤ M.length) (fun k => M.length - k) (0) ?_ (by (repeat' (first | exact trivial | rfl | refine And.intro ?_ ?_ | exact int_congr (by omega) | exact ints_congr (by first | assumption | exact Eq.symm (by assumption)) | exact int_congr (by assumption) | exact bool_congr (by first | assumption | exact Eq.symm (by assumption)) | exact map_congr' (by first | assumption | exact Eq.symm (by assumption))))) ?_
  · exact Nat.zero_le _
  intro k hk
  by_cases hlt : k < M.length
  · have hx : M[k]? = some M[k] := List.getElem?_eq_getElem hlt
    have hs := sumLen_take hlt
    have hle := flat_le (M := M) (k + 1)
    generalize M[k] = r at *
    (repeat' (first | ((with_reducible apply J.step); rfl; exact FM.st) | ((with_reducible apply J.eff); rfl; exact FM.ef) | ((with_reducible apply J.eqNil); rfl; rfl; rfl; rfl; intro bnil hbnil) | (refine J.takeRow rfl rfl AV.noConfusion rfl (by first | assumption | (simp only [List.length_map]; omega)) ?_) | with_reducible refine J.nil ?_ | ((with_reducible apply J.skipV); rfl; rfl; rfl) | ((with_reducible apply J.skipU); rfl; rfl) | with_reducible refine CW.seq ?_ | with_reducible refine CW.block ?_ | ((with_reducible refine CW.reg ?_ ?_); rfl) | ((with_reducible refine CW.regQN ?_ ?_ ?_ ?_); rfl; kernel_rfl; rfl) | ((with_reducible refine CW.regS 1 ?_ ?_ ?_); kernel_rfl; rfl; simp only [List.length_cons, List.length_nil, Nat.reduceAdd, Nat.reduceSub, List.take_succ_cons, List.take_zero, List.drop_succ_cons, List.drop_zero]) | with_reducible refine CW.skip ?_ | with_reducible refine CW.ret ?_ | with_reducible refine CW.exit ?_ | refine CW.condT rfl ?_ | refine CW.condF rfl ?_ | (refine CW.condD rfl (fun _ => ?_) (fun _ => ?_) <;> (try (exfalso; omega))) | (refine CW.cond rfl (fun _ => ?_) (fun _ => ?_) <;> (try (exfalso; simp only [decide_eq_true_eq, decide_eq_false_iff_not, Bool.and_eq_true, Bool.or_eq_true] at *; omega))) | with_reducible refine thenQ_n ?_ | with_reducible refine blockQ_n ?_ | ((with_reducible refine blockQ_e ?_ ?_); rfl) | ((with_reducible refine blockQ_x ?_ ?_); rfl) | with_reducible refine blockQ_r ?_ | with_reducible refine thenQ_x ?_ | with_reducible refine thenQ_r ?_ | ((fail_if_success ((with_reducible apply J.step); rfl)); (fail_if_success ((with_reducible apply J.skipU); rfl)); refine J.splitG rfl rfl (fun _ => ?_) (fun _ => ?_) <;> (try (exfalso; omega))) | ((fail_if_success ((with_reducible apply J.step); rfl)); (fail_if_success ((with_reducible apply J.skipU); rfl)); refine J.splitB rfl rfl (fun _ => ?_) (fun _ => ?_))))
    all_goals first | (exfalso; omega) | skip
    refine ⟨k+1, ?_, by first | omega | (simp only; omega), by (repeat' (first | exact trivial | rfl | refine And.intro ?_ ?_ | exact int_congr (by omega) | exact ints_congr (by first | assumption | exact Eq.symm (by assumption)) | exact int_congr (by assumption) | exact bool_congr (by first | assumption | exact Eq.symm (by assumption)) | exact map_congr' (by first | assumption | exact Eq.symm (by assumption))))⟩
    omega
  · obtain rfl : k = M.length := by omega
    rw [List.take_length]
    (repeat' (first | ((with_reducible apply J.step); rfl; exact FM.st) | ((with_reducible apply J.eff); rfl; exact FM.ef) | ((with_reducible apply J.callP (hG)); rfl; rfl; (repeat' (first | exact ArgsOk.nil | apply ArgsOk.cons | exact ArgOk.pl rfl rfl | exact ArgOk.br rfl AV.noConfusion (by first | rfl | exact sh_int | exact sh_rows | exact sh_rowsO | exact sh_box | exact sh_map (fun _ => rfl)))); (first | rfl | exact (fun h => Bool.noConfusion h) | exact (fun _ => noSh_ints) | exact (fun _ => noSh_strs) | exact (fun _ => NoSh.str) | exact (fun _ => noSh_rows) | exact (fun _ => NoSh.int) | exact (fun _ => NoSh.bool) | exact (fun _ => NoSh.nil) | exact (fun _ => noSh_tup2 (by first | exact noSh_ints | exact noSh_strs | exact NoSh.str | exact noSh_rows | exact NoSh.nil | exact NoSh.int | exact NoSh.bool) (by first | exact noSh_ints | exact noSh_strs | exact NoSh.str | exact NoSh.int | exact NoSh.bool | exact noSh_rows | exact NoSh.nil)) | exact (fun _ => noSh_tup3 (by first | exact noSh_ints | exact noSh_strs | exact NoSh.str | exact noSh_rows | exact NoSh.nil | exact NoSh.int | exact NoSh.bool) (by first | exact noSh_ints | exact noSh_strs | exact NoSh.str | exact NoSh.int | exact NoSh.bool | exact noSh_rows | exact NoSh.nil) (by first | exact noSh_ints | exact noSh_strs | exact NoSh.str | exact NoSh.int | exact NoSh.bool | exact noSh_rows | exact NoSh.nil)))) | ((with_reducible apply J.callPQ (hG)); rfl; rfl; (repeat' (first | exact ArgsOk.nil | apply ArgsOk.cons | exact ArgOk.pl rfl rfl | exact ArgOk.br rfl AV.noConfusion (by first | rfl | exact sh_int | exact sh_rows | exact sh_rowsO | exact sh_box | exact sh_map (fun _ => rfl)))); rfl) | ((with_reducible apply J.eqNil); rfl; rfl; rfl; rfl; intro bnil hbnil) | (refine J.takeRow rfl rfl AV.noConfusion rfl (by first | assumption | (simp only [List.length_map]; omega)) ?_) | with_reducible refine J.nil ?_ | ((with_reducible apply J.skipV); rfl; rfl; rfl) | ((with_reducible apply J.skipU); rfl; rfl) | with_reducible refine CW.seq ?_ | with_reducible refine CW.block ?_ | ((with_reducible refine CW.reg ?_ ?_); rfl) | ((with_reducible refine CW.regQN ?_ ?_ ?_ ?_); rfl; kernel_rfl; rfl) | ((with_reducible refine CW.regS 1 ?_ ?_ ?_); kernel_rfl; rfl; simp only [List.length_cons, List.length_nil, Nat.reduceAdd, Nat.reduceSub, List.take_succ_cons, List.take_zero, List.drop_succ_cons, List.drop_zero]) | with_reducible refine CW.skip ?_ | with_reducible refine CW.ret ?_ | with_reducible refine CW.exit ?_ | refine CW.condT rfl ?_ | refine CW.condF rfl ?_ | (refine CW.condD rfl (fun _ => ?_) (fun _ => ?_) <;> (try (exfalso; omega))) | (refine CW.cond rfl (fun _ => ?_) (fun _ => ?_) <;> (try (exfalso; simp only [decide_eq_true_eq, decide_eq_false_iff_not, Bool.and_eq_true, Bool.or_eq_true] at *; omega))) | with_reducible refine thenQ_n ?_ | with_reducible refine blockQ_n ?_ | ((with_reducible refine blockQ_e ?_ ?_); rfl) | ((with_reducible refine blockQ_x ?_ ?_); rfl) | with_reducible refine blockQ_r ?_ | with_reducible refine thenQ_x ?_ | with_reducible refine thenQ_r ?_ | ((fail_if_success ((with_reducible apply J.step); rfl)); (fail_if_success ((with_reducible apply J.skipU); rfl)); refine J.splitG rfl rfl (fun _ => ?_) (fun _ => ?_) <;> (try (exfalso; omega))) | ((fail_if_success ((with_reducible apply J.step); rfl)); (fail_if_success ((with_reducible apply J.skipU); rfl)); refine J.splitB rfl rfl (fun _ => ?_) (fun _ => ?_))))
    all_goals first | (exfalso; omega) | skip
    refine CW.loop (fun k : Nat => [(0, .av (.sl false 1 ((M).map rwS))), (6, .av (.sl true 1 (((M.take k).flatten).map .int))), (25, .av (.sl false 1 ((M).map rwS))), (26, .av (.int (M.length))), (27, .av (.int (k)))]) (fun k => k ≤ M.length) (fun k => M.length - k) (0) ?_ (by (repeat' (first | exact trivial | rfl | refine And.intro ?_ ?_ | exact int_congr (by omega) | exact ints_congr (by first | assumption | exact Eq.symm (by assumption)) | exact int_congr (by assumption) | exact bool_congr (by first | assumption | exact Eq.symm (by assumption)) | exact map_congr' (by first | assumption | exact Eq.symm (by assumption))))) ?_
    · exact Nat.zero_le _
    intro k hk
    by_cases hlt : k < M.length
    · have hx : M[k]? = some M[k] := List.getElem?_eq_getElem hlt
      have hs := sumLen_take hlt
      have hf := flat_take hlt
      have hle := flat_le (M := M) (k + 1)
      generalize (M.take k).flatten = F at *
      generalize M[k] = r at *
      (repeat' (first | ((with_reducible apply J.step); rfl; exact FM.st) | ((with_reducible apply J.eff); rfl; exact FM.ef) | ((with_reducible apply J.eqNil); rfl; rfl; rfl; rfl; intro bnil hbnil) | (refine J.takeRow rfl rfl AV.noConfusion rfl (by first | assumption | (simp only [List.length_map]; omega)) ?_) | with_reducible refine J.nil ?_ | ((with_reducible apply J.skipV); rfl; rfl; rfl) | ((with_reducible apply J.skipU); rfl; rfl) | with_reducible refine CW.seq ?_ | with_reducible refine CW.block ?_ | ((with_reducible refine CW.reg ?_ ?_); rfl) | ((with_reducible refine CW.regQN ?_ ?_ ?_ ?_); rfl; kernel_rfl; rfl) | ((with_reducible refine CW.regS 1 ?_ ?_ ?_); kernel_rfl; rfl; simp only [List.length_cons, List.length_nil, Nat.reduceAdd, Nat.reduceSub, List.take_succ_cons, List.take_zero, List.drop_succ_cons, List.drop_zero]) | with_reducible refine CW.skip ?_ | with_reducible refine CW.ret ?_ | with_reducible refine CW.exit ?_ | refine CW.condT rfl ?_ | refine CW.condF rfl ?_ | (refine CW.condD rfl (fun _ => ?_) (fun _ => ?_) <;> (try (exfalso; omega))) | (refine CW.cond rfl (fun _ => ?_) (fun _ => ?_) <;> (try (exfalso; simp only [decide_eq_true_eq, decide_eq_false_iff_not, Bool.and_eq_true, Bool.or_eq_true] at *; omega))) | with_reducible refine thenQ_n ?_ | with_reducible refine blockQ_n ?_ | ((with_reducible refine blockQ_e ?_ ?_); rfl) | ((with_reducible refine blockQ_x ?_ ?_); rfl) | with_reducible refine blockQ_r ?_ | with_reducible refine thenQ_x ?_ | with_reducible refine thenQ_r ?_ | ((fail_if_success ((with_reducible apply J.step); rfl)); (fail_if_success ((with_reducible apply J.skipU); rfl)); refine J.splitG rfl rfl (fun _ => ?_) (fun _ => ?_) <;> (try (exfalso; omega))) | ((fail_if_success ((with_reducible apply J.step); rfl)); (fail_if_success ((with_reducible apply J.skipU); rfl)); refine J.splitB rfl rfl (fun _ => ?_) (fun _ => ?_))))
      all_goals first | (exfalso; omega) | skip
      refine ⟨k+1, ?_, by first | omega | (simp only; omega), by (repeat' (first | exact trivial | rfl | refine And.intro ?_ ?_ | exact int_congr (by omega) | exact ints_congr (by first | assumption | exact Eq.symm (by assumption)) | exact int_congr (by assumption) | exact bool_congr (by first | assumption | exact Eq.symm (by assumption)) | exact map_congr' (by first | assumption | exact Eq.symm (by assumption)) | exact ints_congr hf.symm))⟩
      omega
    · obtain rfl : k = M.length := by omega
      rw [List.take_length]
      (repeat' (first | ((with_reducible apply J.step); rfl; exact FM.st) | ((with_reducible apply J.eff); rfl; exact FM.ef) | ((with_reducible apply J.eqNil); rfl; rfl; rfl; rfl; intro bnil hbnil) | (refine J.takeRow rfl rfl AV.noConfusion rfl (by first | assumption | (simp only [List.length_map]; omega)) ?_) | with_reducible refine J.nil ?_ | ((with_reducible apply J.skipV); rfl; rfl; rfl) | ((with_reducible apply J.skipU); rfl; rfl) | with_reducible refine CW.seq ?_ | with_reducible refine CW.block ?_ | ((with_reducible refine CW.reg ?_ ?_); rfl) | ((with_reducible refine CW.regQN ?_ ?_ ?_ ?_); rfl; kernel_rfl; rfl) | ((with_reducible refine CW.regS 1 ?_ ?_ ?_); kernel_rfl; rfl; simp only [List.length_cons, List.length_nil, Nat.reduceAdd, Nat.reduceSub, List.take_succ_cons, List.take_zero, List.drop_succ_cons, List.drop_zero]) | with_reducible refine CW.skip ?_ | with_reducible refine CW.ret ?_ | with_reducible refine CW.exit ?_ | refine CW.condT rfl ?_ | refine CW.condF rfl ?_ | (refine CW.condD rfl (fun _ => ?_) (fun _ => ?_) <;> (try (exfalso; omega))) | (refine CW.cond rfl (fun _ => ?_) (fun _ => ?_) <;> (try (exfalso; simp only [decide_eq_true_eq, decide_eq_false_iff_not, Bool.and_eq_true, Bool.or_eq_true] at *; omega))) | with_reducible refine thenQ_n ?_ | with_reducible refine blockQ_n ?_ | ((with_reducible refine blockQ_e ?_ ?_); rfl) | ((with_reducible refine blockQ_x ?_ ?_); rfl) | with_reducible refine blockQ_r ?_ | with_reducible refine thenQ_x ?_ | with_reducible refine thenQ_r ?_ | ((fail_if_success ((with_reducible apply J.step); rfl)); (fail_if_success ((with_reducible apply J.skipU); rfl)); refine J.splitG rfl rfl (fun _ => ?_) (fun _ => ?_) <;> (try (exfalso; omega))) | ((fail_if_success ((with_reducible apply J.step); rfl)); (fail_if_success ((with_reducible apply J.skipU); rfl)); refine J.splitB rfl rfl (fun _ => ?_) (fun _ => ?_))))
      all_goals first | (exfalso; omega) | exact .mk rfl rfl rfl
end Go.Proofs.Ytohgcgedbhlnfaa
