/- Groves: the best sharing and what is paid, in a namespace of their own. -/
import Derived.Test.YtohgcgedbhlnfaaCl
namespace Go.Proofs.Ytohgcgedbhlnfaa.G
open Go FM
set_option maxRecDepth 10000
set_option maxHeartbeats 1600000
set_option linter.all false
def badM (x : Int) : Bool := decide (x < 0 ∨ 1000000 < x)
def gRows (g : Nat) : List (List Int) → Int
  | [] => 0
  | r :: rs => if r.length ≠ g then 3 else if 4 < r.length then 2 else if r.any badM = true then 1 else gRows g rs
def goodE (M : List (List Int)) : Int := if 4 < M.length then 2 else gRows (M.getD 0 []).length M
theorem gRows_drop {g : Nat} {M : List (List Int)} {k : Nat} (h : k < M.length) : gRows g (M.drop k) = if M[k].length ≠ g then 3 else if 4 < M[k].length then 2 else if M[k].any badM = true then 1 else gRows g (M.drop (k + 1)) := by
  rw [List.drop_eq_getElem_cons h]; rfl
theorem anyG_take {α : Type} (p : α → Bool) (l : List α) (k : Nat) (h : k < l.length) : (l.take (k+1)).any p = ((l.take k).any p || p l[k]) := by
  rw [List.take_succ_eq_append_getElem h, List.any_append]; simp
theorem anyG_get {α : Type} {p : α → Bool} {l : List α} {k : Nat} (h : k < l.length) (hp : p l[k] = true) : l.any p = true := List.any_eq_true.2 ⟨l[k], List.getElem_mem h, hp⟩
theorem grovesCheck_spec (M : List (List Int)) (hM : M.length ≤ 9223372036854775807) (hr : ∀ r ∈ M, r.length ≤ 9223372036854775807) : FnSpec Sy.P 98 [.sl false 1 ((M).map rwS)] [.sl false 1 ((M).map rwS)] (.int (goodE M)) := by
  refine FnSpec.enter (S := Sy) 0 Try.func98 rfl rfl rfl Try.ntmps98 rfl rfl rfl rfl fun v0 => ?_
  by_cases h1 : 4 < M.length
  · rw [show goodE M = 2 from if_pos h1]
    (repeat' (first | ((with_reducible apply J.step); rfl; exact FM.st) | ((with_reducible apply J.eff); rfl; exact FM.ef) | ((with_reducible apply J.eqNil); rfl; rfl; rfl; rfl; intro bnil hbnil) | (refine J.takeRow rfl rfl AV.noConfusion rfl (by first | assumption | (simp only [List.length_map]; omega)) ?_) | with_reducible refine J.nil ?_ | ((with_reducible apply J.skipV); rfl; rfl; rfl) | ((with_reducible apply J.skipU); rfl; rfl) | with_reducible refine CW.seq ?_ | with_reducible refine CW.block ?_ | ((with_reducible refine CW.reg ?_ ?_); rfl) | ((with_reducible refine CW.regQN ?_ ?_ ?_ ?_); rfl; kernel_rfl; rfl) | ((with_reducible refine CW.regS 1 ?_ ?_ ?_); kernel_rfl; rfl; simp only [List.length_cons, List.length_nil, Nat.reduceAdd, Nat.reduceSub, List.take_succ_cons, List.take_zero, List.drop_succ_cons, List.drop_zero]) | with_reducible refine CW.skip ?_ | with_reducible refine CW.ret ?_ | with_reducible refine CW.exit ?_ | refine CW.condT rfl ?_ | refine CW.condF rfl ?_ | (refine CW.condD rfl (fun _ => ?_) (fun _ => ?_) <;> (try (exfalso; omega))) | (refine CW.cond rfl (fun _ => ?_) (fun _ => ?_) <;> (try (exfalso; simp only [decide_eq_true_eq, decide_eq_false_iff_not, Bool.and_eq_true, Bool.or_eq_true] at *; omega))) | with_reducible refine thenQ_n ?_ | with_reducible refine blockQ_n ?_ | ((with_reducible refine blockQ_e ?_ ?_); rfl) | ((with_reducible refine blockQ_x ?_ ?_); rfl) | with_reducible refine blockQ_r ?_ | with_reducible refine thenQ_x ?_ | with_reducible refine thenQ_r ?_ | ((fail_if_success ((with_reducible apply J.step); rfl)); (fail_if_success ((with_reducible apply J.skipU); rfl)); refine J.splitG rfl rfl (fun _ => ?_) (fun _ => ?_) <;> (try (exfalso; omega))) | ((fail_if_success ((with_reducible apply J.step); rfl)); (fail_if_success ((with_reducible apply J.skipU); rfl)); refine J.splitB rfl rfl (fun _ => ?_) (fun _ => ?_))))
    exact .mk rfl rfl rfl
  rw [show goodE M = gRows (M.getD 0 []).length M from if_neg h1]
  obtain ⟨g, hg⟩ : ∃ g, (M.getD 0 []).length = g := ⟨_, rfl⟩
  rw [hg]
  (repeat' (first | ((with_reducible apply J.step); rfl; exact FM.st) | ((with_reducible apply J.eff); rfl; exact FM.ef) | ((with_reducible apply J.eqNil); rfl; rfl; rfl; rfl; intro bnil hbnil) | (refine J.takeRow rfl rfl AV.noConfusion rfl (by first | assumption | (simp only [List.length_map]; omega)) ?_) | with_reducible refine J.nil ?_ | ((with_reducible apply J.skipV); rfl; rfl; rfl) | ((with_reducible apply J.skipU); rfl; rfl) | with_reducible refine CW.seq ?_ | with_reducible refine CW.block ?_ | ((with_reducible refine CW.reg ?_ ?_); rfl) | ((with_reducible refine CW.regQN ?_ ?_ ?_ ?_); rfl; kernel_rfl; rfl) | ((with_reducible refine CW.regS 1 ?_ ?_ ?_); kernel_rfl; rfl; simp only [List.length_cons, List.length_nil, Nat.reduceAdd, Nat.reduceSub, List.take_succ_cons, List.take_zero, List.drop_succ_cons, List.drop_zero]) | with_reducible refine CW.skip ?_ | with_reducible refine CW.ret ?_ | with_reducible refine CW.exit ?_ | refine CW.condT rfl ?_ | refine CW.condF rfl ?_ | (refine CW.condD rfl (fun _ => ?_) (fun _ => ?_) <;> (try (exfalso; omega))) | (refine CW.cond rfl (fun _ => ?_) (fun _ => ?_) <;> (try (exfalso; simp only [decide_eq_true_eq, decide_eq_false_iff_not, Bool.and_eq_true, Bool.or_eq_true] at *; omega))) | with_reducible refine thenQ_n ?_ | with_reducible refine blockQ_n ?_ | ((with_reducible refine blockQ_e ?_ ?_); rfl) | ((with_reducible refine blockQ_x ?_ ?_); rfl) | with_reducible refine blockQ_r ?_ | with_reducible refine thenQ_x ?_ | with_reducible refine thenQ_r ?_ | ((fail_if_success ((with_reducible apply J.step); rfl)); (fail_if_success ((with_reducible apply J.skipU); rfl)); refine J.splitG rfl rfl (fun _ => ?_) (fun _ => ?_) <;> (try (exfalso; omega))) | ((fail_if_success ((with_reducible apply J.step); rfl)); (fail_if_success ((with_reducible apply J.skipU); rfl)); refine J.splitB rfl rfl (fun _ => ?_) (fun _ => ?_))))
  refine CW.loop (fun k : Nat => [(0, .av (.sl false 1 ((M).map rwS))), (10, .av (.sl false 1 ((M).map rwS))), (11, .av (.int (M.length))), (12, .av (.int (k)))]) (fun k => k ≤ M.length ∧ gRows g M = gRows g (M.drop k)) (fun k => M.length - k) (0) ?_ (by (repeat' (first | exact trivial | rfl | refine And.intro ?_ ?_ | exact int_congr (by omega) | exact ints_congr (by first | assumption | exact Eq.symm (by assumption)) | exact int_congr (by assumption) | exact bool_congr (by first | assumption | exact Eq.symm (by assumption)) | exact map_congr' (by first | assumption | exact Eq.symm (by assumption))))) ?_
  · exact ⟨Nat.zero_le _, rfl⟩
  intro k ⟨hk, hp⟩
  by_cases hlt : k < M.length
  · have hx : M[k]? = some M[k] := List.getElem?_eq_getElem hlt
    have hrl := hr _ (List.getElem_mem hlt)
    have h0 : M[0]? = some (M[0]'(by omega)) := List.getElem?_eq_getElem (by omega)
    have hg0 : (M[0]'(by omega)).length = g := by rw [← hg, List.getD_eq_getElem?_getD, h0]; rfl
    rw [gRows_drop hlt] at hp
    generalize M[0]'(by omega) = r0 at *
    generalize M[k] = r at *
    by_cases c1 : r.length = g
    · rw [if_neg (by simpa using c1)] at hp
      by_cases c2 : 4 < r.length
      · rw [if_pos c2] at hp
        rw [hp]
        (repeat' (first | ((with_reducible apply J.step); rfl; exact FM.st) | ((with_reducible apply J.eff); rfl; exact FM.ef) | ((with_reducible apply J.eqNil); rfl; rfl; rfl; rfl; intro bnil hbnil) | (refine J.takeRow rfl rfl AV.noConfusion rfl (by first | assumption | (simp only [List.length_map]; omega)) ?_) | with_reducible refine J.nil ?_ | ((with_reducible apply J.skipV); rfl; rfl; rfl) | ((with_reducible apply J.skipU); rfl; rfl) | with_reducible refine CW.seq ?_ | with_reducible refine CW.block ?_ | ((with_reducible refine CW.reg ?_ ?_); rfl) | ((with_reducible refine CW.regQN ?_ ?_ ?_ ?_); rfl; kernel_rfl; rfl) | ((with_reducible refine CW.regS 1 ?_ ?_ ?_); kernel_rfl; rfl; simp only [List.length_cons, List.length_nil, Nat.reduceAdd, Nat.reduceSub, List.take_succ_cons, List.take_zero, List.drop_succ_cons, List.drop_zero]) | with_reducible refine CW.skip ?_ | with_reducible refine CW.ret ?_ | with_reducible refine CW.exit ?_ | refine CW.condT rfl ?_ | refine CW.condF rfl ?_ | (refine CW.condD rfl (fun _ => ?_) (fun _ => ?_) <;> (try (exfalso; omega))) | (refine CW.cond rfl (fun _ => ?_) (fun _ => ?_) <;> (try (exfalso; simp only [decide_eq_true_eq, decide_eq_false_iff_not, Bool.and_eq_true, Bool.or_eq_true] at *; omega))) | with_reducible refine thenQ_n ?_ | with_reducible refine blockQ_n ?_ | ((with_reducible refine blockQ_e ?_ ?_); rfl) | ((with_reducible refine blockQ_x ?_ ?_); rfl) | with_reducible refine blockQ_r ?_ | with_reducible refine thenQ_x ?_ | with_reducible refine thenQ_r ?_ | ((fail_if_success ((with_reducible apply J.step); rfl)); (fail_if_success ((with_reducible apply J.skipU); rfl)); refine J.splitG rfl rfl (fun _ => ?_) (fun _ => ?_) <;> (try (exfalso; omega))) | ((fail_if_success ((with_reducible apply J.step); rfl)); (fail_if_success ((with_reducible apply J.skipU); rfl)); refine J.splitB rfl rfl (fun _ => ?_) (fun _ => ?_))))
        exact .mk rfl rfl rfl
      rw [if_neg c2] at hp
      (repeat' (first | ((with_reducible apply J.step); rfl; exact FM.st) | ((with_reducible apply J.eff); rfl; exact FM.ef) | ((with_reducible apply J.eqNil); rfl; rfl; rfl; rfl; intro bnil hbnil) | (refine J.takeRow rfl rfl AV.noConfusion rfl (by first | assumption | (simp only [List.length_map]; omega)) ?_) | with_reducible refine J.nil ?_ | ((with_reducible apply J.skipV); rfl; rfl; rfl) | ((with_reducible apply J.skipU); rfl; rfl) | with_reducible refine CW.seq ?_ | with_reducible refine CW.block ?_ | ((with_reducible refine CW.reg ?_ ?_); rfl) | ((with_reducible refine CW.regQN ?_ ?_ ?_ ?_); rfl; kernel_rfl; rfl) | ((with_reducible refine CW.regS 1 ?_ ?_ ?_); kernel_rfl; rfl; simp only [List.length_cons, List.length_nil, Nat.reduceAdd, Nat.reduceSub, List.take_succ_cons, List.take_zero, List.drop_succ_cons, List.drop_zero]) | with_reducible refine CW.skip ?_ | with_reducible refine CW.ret ?_ | with_reducible refine CW.exit ?_ | refine CW.condT rfl ?_ | refine CW.condF rfl ?_ | (refine CW.condD rfl (fun _ => ?_) (fun _ => ?_) <;> (try (exfalso; omega))) | (refine CW.cond rfl (fun _ => ?_) (fun _ => ?_) <;> (try (exfalso; simp only [decide_eq_true_eq, decide_eq_false_iff_not, Bool.and_eq_true, Bool.or_eq_true] at *; omega))) | with_reducible refine thenQ_n ?_ | with_reducible refine blockQ_n ?_ | ((with_reducible refine blockQ_e ?_ ?_); rfl) | ((with_reducible refine blockQ_x ?_ ?_); rfl) | with_reducible refine blockQ_r ?_ | with_reducible refine thenQ_x ?_ | with_reducible refine thenQ_r ?_ | ((fail_if_success ((with_reducible apply J.step); rfl)); (fail_if_success ((with_reducible apply J.skipU); rfl)); refine J.splitG rfl rfl (fun _ => ?_) (fun _ => ?_) <;> (try (exfalso; omega))) | ((fail_if_success ((with_reducible apply J.step); rfl)); (fail_if_success ((with_reducible apply J.skipU); rfl)); refine J.splitB rfl rfl (fun _ => ?_) (fun _ => ?_))))
      refine CW.loop (fun j : Nat => [(0, .av (.sl false 1 ((M).map rwS))), (10, .av (.sl false 1 ((M).map rwS))), (11, .av (.int (M.length))), (12, .av (.int (k))), (26, .av (.sl false 1 ((r).map .int))), (27, .av (.int (r.length))), (28, .av (.int (j)))]) (fun j => j ≤ r.length ∧ (r.take j).any badM = false) (fun j => r.length - j) (0) ?_ (by (repeat' (first | exact trivial | rfl | refine And.intro ?_ ?_ | exact int_congr (by omega) | exact ints_congr (by first | assumption | exact Eq.symm (by assumption)) | exact int_congr (by assumption) | exact bool_congr (by first | assumption | exact Eq.symm (by assumption)) | exact map_congr' (by first | assumption | exact Eq.symm (by assumption))))) ?_
      · exact ⟨Nat.zero_le _, rfl⟩
      intro j ⟨hj, hq⟩
      by_cases hjl : j < r.length
      · have hy : r[j]? = some r[j] := List.getElem?_eq_getElem hjl
        by_cases hb : r[j] < 0 ∨ 1000000 < r[j]
        · have hb1 : badM r[j] = true := by unfold badM; exact decide_eq_true hb
          rw [if_pos (anyG_get hjl hb1)] at hp
          rw [hp]
          (repeat' (first | ((with_reducible apply J.step); rfl; exact FM.st) | ((with_reducible apply J.eff); rfl; exact FM.ef) | ((with_reducible apply J.eqNil); rfl; rfl; rfl; rfl; intro bnil hbnil) | (refine J.takeRow rfl rfl AV.noConfusion rfl (by first | assumption | (simp only [List.length_map]; omega)) ?_) | with_reducible refine J.nil ?_ | ((with_reducible apply J.skipV); rfl; rfl; rfl) | ((with_reducible apply J.skipU); rfl; rfl) | with_reducible refine CW.seq ?_ | with_reducible refine CW.block ?_ | ((with_reducible refine CW.reg ?_ ?_); rfl) | ((with_reducible refine CW.regQN ?_ ?_ ?_ ?_); rfl; kernel_rfl; rfl) | ((with_reducible refine CW.regS 1 ?_ ?_ ?_); kernel_rfl; rfl; simp only [List.length_cons, List.length_nil, Nat.reduceAdd, Nat.reduceSub, List.take_succ_cons, List.take_zero, List.drop_succ_cons, List.drop_zero]) | with_reducible refine CW.skip ?_ | with_reducible refine CW.ret ?_ | with_reducible refine CW.exit ?_ | refine CW.condT rfl ?_ | refine CW.condF rfl ?_ | (refine CW.condD rfl (fun _ => ?_) (fun _ => ?_) <;> (try (exfalso; omega))) | (refine CW.cond rfl (fun _ => ?_) (fun _ => ?_) <;> (try (exfalso; simp only [decide_eq_true_eq, decide_eq_false_iff_not, Bool.and_eq_true, Bool.or_eq_true] at *; omega))) | with_reducible refine thenQ_n ?_ | with_reducible refine blockQ_n ?_ | ((with_reducible refine blockQ_e ?_ ?_); rfl) | ((with_reducible refine blockQ_x ?_ ?_); rfl) | with_reducible refine blockQ_r ?_ | with_reducible refine thenQ_x ?_ | with_reducible refine thenQ_r ?_ | ((fail_if_success ((with_reducible apply J.step); rfl)); (fail_if_success ((with_reducible apply J.skipU); rfl)); refine J.splitG rfl rfl (fun _ => ?_) (fun _ => ?_) <;> (try (exfalso; omega))) | ((fail_if_success ((with_reducible apply J.step); rfl)); (fail_if_success ((with_reducible apply J.skipU); rfl)); refine J.splitB rfl rfl (fun _ => ?_) (fun _ => ?_))))
          all_goals exact .mk rfl rfl rfl
        · have hb1 : badM r[j] = false := by unfold badM; exact decide_eq_false hb
          (repeat' (first | ((with_reducible apply J.step); rfl; exact FM.st) | ((with_reducible apply J.eff); rfl; exact FM.ef) | ((with_reducible apply J.eqNil); rfl; rfl; rfl; rfl; intro bnil hbnil) | (refine J.takeRow rfl rfl AV.noConfusion rfl (by first | assumption | (simp only [List.length_map]; omega)) ?_) | with_reducible refine J.nil ?_ | ((with_reducible apply J.skipV); rfl; rfl; rfl) | ((with_reducible apply J.skipU); rfl; rfl) | with_reducible refine CW.seq ?_ | with_reducible refine CW.block ?_ | ((with_reducible refine CW.reg ?_ ?_); rfl) | ((with_reducible refine CW.regQN ?_ ?_ ?_ ?_); rfl; kernel_rfl; rfl) | ((with_reducible refine CW.regS 1 ?_ ?_ ?_); kernel_rfl; rfl; simp only [List.length_cons, List.length_nil, Nat.reduceAdd, Nat.reduceSub, List.take_succ_cons, List.take_zero, List.drop_succ_cons, List.drop_zero]) | with_reducible refine CW.skip ?_ | with_reducible refine CW.ret ?_ | with_reducible refine CW.exit ?_ | refine CW.condT rfl ?_ | refine CW.condF rfl ?_ | (refine CW.condD rfl (fun _ => ?_) (fun _ => ?_) <;> (try (exfalso; omega))) | (refine CW.cond rfl (fun _ => ?_) (fun _ => ?_) <;> (try (exfalso; simp only [decide_eq_true_eq, decide_eq_false_iff_not, Bool.and_eq_true, Bool.or_eq_true] at *; omega))) | with_reducible refine thenQ_n ?_ | with_reducible refine blockQ_n ?_ | ((with_reducible refine blockQ_e ?_ ?_); rfl) | ((with_reducible refine blockQ_x ?_ ?_); rfl) | with_reducible refine blockQ_r ?_ | with_reducible refine thenQ_x ?_ | with_reducible refine thenQ_r ?_ | ((fail_if_success ((with_reducible apply J.step); rfl)); (fail_if_success ((with_reducible apply J.skipU); rfl)); refine J.splitG rfl rfl (fun _ => ?_) (fun _ => ?_) <;> (try (exfalso; omega))) | ((fail_if_success ((with_reducible apply J.step); rfl)); (fail_if_success ((with_reducible apply J.skipU); rfl)); refine J.splitB rfl rfl (fun _ => ?_) (fun _ => ?_))))
          refine ⟨j+1, ?_, by first | omega | (simp only; omega), by (repeat' (first | exact trivial | rfl | refine And.intro ?_ ?_ | exact int_congr (by omega) | exact ints_congr (by first | assumption | exact Eq.symm (by assumption)) | exact int_congr (by assumption) | exact bool_congr (by first | assumption | exact Eq.symm (by assumption)) | exact map_congr' (by first | assumption | exact Eq.symm (by assumption))))⟩
          exact ⟨by omega, by rw [anyG_take _ _ _ hjl, hq, hb1]; rfl⟩
      · obtain rfl : j = r.length := by omega
        rw [List.take_length] at hq
        rw [if_neg (by rw [hq]; simp)] at hp
        (repeat' (first | ((with_reducible apply J.step); rfl; exact FM.st) | ((with_reducible apply J.eff); rfl; exact FM.ef) | ((with_reducible apply J.eqNil); rfl; rfl; rfl; rfl; intro bnil hbnil) | (refine J.takeRow rfl rfl AV.noConfusion rfl (by first | assumption | (simp only [List.length_map]; omega)) ?_) | with_reducible refine J.nil ?_ | ((with_reducible apply J.skipV); rfl; rfl; rfl) | ((with_reducible apply J.skipU); rfl; rfl) | with_reducible refine CW.seq ?_ | with_reducible refine CW.block ?_ | ((with_reducible refine CW.reg ?_ ?_); rfl) | ((with_reducible refine CW.regQN ?_ ?_ ?_ ?_); rfl; kernel_rfl; rfl) | ((with_reducible refine CW.regS 1 ?_ ?_ ?_); kernel_rfl; rfl; simp only [List.length_cons, List.length_nil, Nat.reduceAdd, Nat.reduceSub, List.take_succ_cons, List.take_zero, List.drop_succ_cons, List.drop_zero]) | with_reducible refine CW.skip ?_ | with_reducible refine CW.ret ?_ | with_reducible refine CW.exit ?_ | refine CW.condT rfl ?_ | refine CW.condF rfl ?_ | (refine CW.condD rfl (fun _ => ?_) (fun _ => ?_) <;> (try (exfalso; omega))) | (refine CW.cond rfl (fun _ => ?_) (fun _ => ?_) <;> (try (exfalso; simp only [decide_eq_true_eq, decide_eq_false_iff_not, Bool.and_eq_true, Bool.or_eq_true] at *; omega))) | with_reducible refine thenQ_n ?_ | with_reducible refine blockQ_n ?_ | ((with_reducible refine blockQ_e ?_ ?_); rfl) | ((with_reducible refine blockQ_x ?_ ?_); rfl) | with_reducible refine blockQ_r ?_ | with_reducible refine thenQ_x ?_ | with_reducible refine thenQ_r ?_ | ((fail_if_success ((with_reducible apply J.step); rfl)); (fail_if_success ((with_reducible apply J.skipU); rfl)); refine J.splitG rfl rfl (fun _ => ?_) (fun _ => ?_) <;> (try (exfalso; omega))) | ((fail_if_success ((with_reducible apply J.step); rfl)); (fail_if_success ((with_reducible apply J.skipU); rfl)); refine J.splitB rfl rfl (fun _ => ?_) (fun _ => ?_))))
        refine ⟨k+1, ?_, by first | omega | (simp only; omega), by (repeat' (first | exact trivial | rfl | refine And.intro ?_ ?_ | exact int_congr (by omega) | exact ints_congr (by first | assumption | exact Eq.symm (by assumption)) | exact int_congr (by assumption) | exact bool_congr (by first | assumption | exact Eq.symm (by assumption)) | exact map_congr' (by first | assumption | exact Eq.symm (by assumption))))⟩
        exact ⟨by omega, hp⟩
    · rw [if_pos (by simpa using c1)] at hp
      rw [hp]
      (repeat' (first | ((with_reducible apply J.step); rfl; exact FM.st) | ((with_reducible apply J.eff); rfl; exact FM.ef) | ((with_reducible apply J.eqNil); rfl; rfl; rfl; rfl; intro bnil hbnil) | (refine J.takeRow rfl rfl AV.noConfusion rfl (by first | assumption | (simp only [List.length_map]; omega)) ?_) | with_reducible refine J.nil ?_ | ((with_reducible apply J.skipV); rfl; rfl; rfl) | ((with_reducible apply J.skipU); rfl; rfl) | with_reducible refine CW.seq ?_ | with_reducible refine CW.block ?_ | ((with_reducible refine CW.reg ?_ ?_); rfl) | ((with_reducible refine CW.regQN ?_ ?_ ?_ ?_); rfl; kernel_rfl; rfl) | ((with_reducible refine CW.regS 1 ?_ ?_ ?_); kernel_rfl; rfl; simp only [List.length_cons, List.length_nil, Nat.reduceAdd, Nat.reduceSub, List.take_succ_cons, List.take_zero, List.drop_succ_cons, List.drop_zero]) | with_reducible refine CW.skip ?_ | with_reducible refine CW.ret ?_ | with_reducible refine CW.exit ?_ | refine CW.condT rfl ?_ | refine CW.condF rfl ?_ | (refine CW.condD rfl (fun _ => ?_) (fun _ => ?_) <;> (try (exfalso; omega))) | (refine CW.cond rfl (fun _ => ?_) (fun _ => ?_) <;> (try (exfalso; simp only [decide_eq_true_eq, decide_eq_false_iff_not, Bool.and_eq_true, Bool.or_eq_true] at *; omega))) | with_reducible refine thenQ_n ?_ | with_reducible refine blockQ_n ?_ | ((with_reducible refine blockQ_e ?_ ?_); rfl) | ((with_reducible refine blockQ_x ?_ ?_); rfl) | with_reducible refine blockQ_r ?_ | with_reducible refine thenQ_x ?_ | with_reducible refine thenQ_r ?_ | ((fail_if_success ((with_reducible apply J.step); rfl)); (fail_if_success ((with_reducible apply J.skipU); rfl)); refine J.splitG rfl rfl (fun _ => ?_) (fun _ => ?_) <;> (try (exfalso; omega))) | ((fail_if_success ((with_reducible apply J.step); rfl)); (fail_if_success ((with_reducible apply J.skipU); rfl)); refine J.splitB rfl rfl (fun _ => ?_) (fun _ => ?_))))
      exact .mk rfl rfl rfl
  · obtain rfl : k = M.length := by omega
    rw [List.drop_length] at hp
    rw [hp]
    (repeat' (first | ((with_reducible apply J.step); rfl; exact FM.st) | ((with_reducible apply J.eff); rfl; exact FM.ef) | ((with_reducible apply J.eqNil); rfl; rfl; rfl; rfl; intro bnil hbnil) | (refine J.takeRow rfl rfl AV.noConfusion rfl (by first | assumption | (simp only [List.length_map]; omega)) ?_) | with_reducible refine J.nil ?_ | ((with_reducible apply J.skipV); rfl; rfl; rfl) | ((with_reducible apply J.skipU); rfl; rfl) | with_reducible refine CW.seq ?_ | with_reducible refine CW.block ?_ | ((with_reducible refine CW.reg ?_ ?_); rfl) | ((with_reducible refine CW.regQN ?_ ?_ ?_ ?_); rfl; kernel_rfl; rfl) | ((with_reducible refine CW.regS 1 ?_ ?_ ?_); kernel_rfl; rfl; simp only [List.length_cons, List.length_nil, Nat.reduceAdd, Nat.reduceSub, List.take_succ_cons, List.take_zero, List.drop_succ_cons, List.drop_zero]) | with_reducible refine CW.skip ?_ | with_reducible refine CW.ret ?_ | with_reducible refine CW.exit ?_ | refine CW.condT rfl ?_ | refine CW.condF rfl ?_ | (refine CW.condD rfl (fun _ => ?_) (fun _ => ?_) <;> (try (exfalso; omega))) | (refine CW.cond rfl (fun _ => ?_) (fun _ => ?_) <;> (try (exfalso; simp only [decide_eq_true_eq, decide_eq_false_iff_not, Bool.and_eq_true, Bool.or_eq_true] at *; omega))) | with_reducible refine thenQ_n ?_ | with_reducible refine blockQ_n ?_ | ((with_reducible refine blockQ_e ?_ ?_); rfl) | ((with_reducible refine blockQ_x ?_ ?_); rfl) | with_reducible refine blockQ_r ?_ | with_reducible refine thenQ_x ?_ | with_reducible refine thenQ_r ?_ | ((fail_if_success ((with_reducible apply J.step); rfl)); (fail_if_success ((with_reducible apply J.skipU); rfl)); refine J.splitG rfl rfl (fun _ => ?_) (fun _ => ?_) <;> (try (exfalso; omega))) | ((fail_if_success ((with_reducible apply J.step); rfl)); (fail_if_success ((with_reducible apply J.skipU); rfl)); refine J.splitB rfl rfl (fun _ => ?_) (fun _ => ?_))))
    exact .mk rfl rfl rfl
/-- A right table of worths. -/
structure GTab (n g : Nat) (w : Nat → Nat → Int) : Prop where
  n4 : n ≤ 4
  g4 : g ≤ 4
  g0 : n = 0 → g = 0
  range : ∀ a b, a < n → b < g → 0 ≤ w a b ∧ w a b ≤ 1000000
theorem gRows_ok {g : Nat} : ∀ {M : List (List Int)}, gRows g M = 0 → ∀ r ∈ M, r.length = g ∧ r.length ≤ 4 ∧ r.any badM = false
  | [], _, r, hr => by cases hr
  | q :: M, h, r, hr => by
    unfold gRows at h
    by_cases h1 : q.length ≠ g
    · rw [if_pos h1] at h; cases h
    rw [if_neg h1] at h
    by_cases h2 : 4 < q.length
    · rw [if_pos h2] at h; cases h
    rw [if_neg h2] at h
    by_cases h3 : q.any badM = true
    · rw [if_pos h3] at h; cases h
    rw [if_neg h3] at h
    rcases List.mem_cons.1 hr with rfl | hr
    · exact ⟨by omega, by omega, by simpa using h3⟩
    · exact gRows_ok h r hr
theorem goodE_ok {M : List (List Int)} (h : goodE M = 0) : ∃ n g w, M = mtx n g w ∧ GTab n g w := by
  unfold goodE at h
  by_cases h1 : 4 < M.length
  · rw [if_pos h1] at h; cases h
  rw [if_neg h1] at h
  have hr := gRows_ok h
  generalize hg : (M.getD 0 []).length = g at *
  refine ⟨M.length, g, _, mtx_of fun r hr' => (hr r hr').1, by omega, ?_, fun h0 => ?_, fun a b ha hb => ?_⟩
  · cases M with
    | nil => rw [← hg]; simp
    | cons q M => have := hr q (List.mem_cons_self ..); omega
  · rw [← hg, List.getD_eq_getElem?_getD, List.getElem?_eq_none (by omega)]; rfl
  · have hra := hr _ (List.getElem_mem ha)
    have e : (M.getD a []).getD b 0 = (M[a])[b]'(by omega) := by simp [List.getD_eq_getElem?_getD, ha, show b < (M[a]).length by omega]
    rw [e]
    have := List.any_eq_false.1 hra.2.2 _ (List.getElem_mem (by omega : b < (M[a]).length))
    simp only [badM, decide_eq_true_eq] at this
    omega
def bstTo (sub : Nat → List Int × Int) (row : Nat → Int) (T : Nat) (init : List Int × Int × Int) : Nat → List Int × Int × Int
  | 0 => init
  | k + 1 => if shr T k % 2 = 0 ∧ (bstTo sub row T init k).2.1 < row k + (sub k).2 then ((sub k).1, row k + (sub k).2, (k : Int)) else bstTo sub row T init k
def bst (g : Nat) (w : Nat → Nat → Int) (wo : Int) : Nat → Nat → Nat → List Int × Int
  | 0, _, _ => ([], 0)
  | m + 1, i, T =>
    if (i : Int) = wo then (-1 :: (bst g w wo m (i + 1) T).1, (bst g w wo m (i + 1) T).2) else
      let s := bstTo (fun k => bst g w wo m (i + 1) (T ||| 2 ^ k)) (w i) T ((bst g w wo m (i + 1) T).1, (bst g w wo m (i + 1) T).2, -1) g
      (s.2.2 :: s.1, s.2.1)
def bstS (g : Nat) (w : Nat → Nat → Int) (wo : Int) (m i T k : Nat) : List Int × Int × Int :=
  bstTo (fun k => bst g w wo m (i + 1) (T ||| 2 ^ k)) (w i) T ((bst g w wo m (i + 1) T).1, (bst g w wo m (i + 1) T).2, -1) k
theorem bstS_succ {g : Nat} {w : Nat → Nat → Int} {wo : Int} {m i T k : Nat} : bstS g w wo m i T (k + 1) =
    if shr T k % 2 = 0 ∧ (bstS g w wo m i T k).2.1 < w i k + (bst g w wo m (i + 1) (T ||| 2 ^ k)).2 then ((bst g w wo m (i + 1) (T ||| 2 ^ k)).1, w i k + (bst g w wo m (i + 1) (T ||| 2 ^ k)).2, (k : Int)) else bstS g w wo m i T k := rfl
theorem bst_skip {g : Nat} {w : Nat → Nat → Int} {wo : Int} {m i T : Nat} (h : (i : Int) = wo) : bst g w wo (m + 1) i T = (-1 :: (bst g w wo m (i + 1) T).1, (bst g w wo m (i + 1) T).2) := by
  rw [bst, if_pos h]
theorem bst_take {g : Nat} {w : Nat → Nat → Int} {wo : Int} {m i T : Nat} (h : ¬ (i : Int) = wo) : bst g w wo (m + 1) i T = ((bstS g w wo m i T g).2.2 :: (bstS g w wo m i T g).1, (bstS g w wo m i T g).2.1) := by
  rw [bst, if_neg h]; rfl
theorem bstS_ok {n g : Nat} {w : Nat → Nat → Int} {wo : Int} (hw : GTab n g w) {m i T : Nat} (hi : i + m + 1 ≤ n)
    (ih : ∀ T, (bst g w wo m (i + 1) T).1.length = m ∧ 0 ≤ (bst g w wo m (i + 1) T).2 ∧ (bst g w wo m (i + 1) T).2 ≤ m * 1000000) : ∀ k, k ≤ g →
    (bstS g w wo m i T k).1.length = m ∧ 0 ≤ (bstS g w wo m i T k).2.1 ∧ (bstS g w wo m i T k).2.1 ≤ (m + 1 : Nat) * 1000000 ∧ -1 ≤ (bstS g w wo m i T k).2.2 ∧ (bstS g w wo m i T k).2.2 < g
  | 0, _ => by
    obtain ⟨h1, h2, h3⟩ := ih T
    refine ⟨h1, h2, ?_, by simp [bstS, bstTo], by simp [bstS, bstTo]; omega⟩
    show (bst g w wo m (i + 1) T).2 ≤ _
    omega
  | k + 1, hk => by
    have hs := bstS_ok hw hi ih (T := T) k (by omega)
    rw [bstS_succ]
    by_cases hc : shr T k % 2 = 0 ∧ (bstS g w wo m i T k).2.1 < w i k + (bst g w wo m (i + 1) (T ||| 2 ^ k)).2
    · rw [if_pos hc]
      obtain ⟨h1, h2, h3⟩ := ih (T ||| 2 ^ k)
      have hr := hw.range i k (by omega) (by omega)
      refine ⟨h1, ?_, ?_, ?_, ?_⟩ <;> simp only <;> omega
    · rw [if_neg hc]; exact hs
theorem bst_ok {n g : Nat} {w : Nat → Nat → Int} {wo : Int} (hw : GTab n g w) : ∀ (m i T : Nat), i + m ≤ n → (bst g w wo m i T).1.length = m ∧ 0 ≤ (bst g w wo m i T).2 ∧ (bst g w wo m i T).2 ≤ m * 1000000
  | 0, i, T, _ => by simp [bst]
  | m + 1, i, T, hi => by
    have ih := fun T => bst_ok hw (wo := wo) m (i + 1) T (by omega)
    by_cases h : (i : Int) = wo
    · rw [bst_skip h]
      obtain ⟨h1, h2, h3⟩ := ih T
      refine ⟨by simp [h1], h2, ?_⟩
      simp only; omega
    · rw [bst_take h]
      obtain ⟨h1, h2, h3, _⟩ := bstS_ok hw (by omega) ih (T := T) g (Nat.le_refl _)
      exact ⟨by simp [h1], h2, h3⟩
theorem pow_le_8 {k g : Nat} (h : k < g) (hg : g ≤ 4) : 2 ^ k ≤ 8 := Nat.pow_le_pow_right (n := 2) (i := k) (j := 3) (by decide) (by omega)
theorem pow_le_16 {g : Nat} (hg : g ≤ 4) : 2 ^ g ≤ 16 := Nat.pow_le_pow_right (n := 2) (i := g) (j := 4) (by decide) hg
theorem best_spec (n g : Nat) (w : Nat → Nat → Int) (hw : GTab n g w) (wo : Int) : ∀ (m i T : Nat), i + m = n → T < 2 ^ g →
    FnSpec Sy.P 99 [.sl false 1 ((mtx n g w).map rwS), .int i, .int T, .int wo] [.sl false 1 ((mtx n g w).map rwS), .int i, .int T, .int wo] (.tup [.sl true 1 (((bst g w wo m i T).1).map .int), .int (bst g w wo m i T).2])
  | 0, i, T, hi, hT => by
    have hlen : (mtx n g w).length = n := mtx_length
    have h4 := hw.n4
    refine FnSpec.enter (S := Sy) 0 Try.func99 rfl rfl rfl Try.ntmps99 rfl rfl rfl rfl fun v0 => ?_
    (repeat' (first | ((with_reducible apply J.step); rfl; exact FM.st) | ((with_reducible apply J.eff); rfl; exact FM.ef) | ((with_reducible apply J.eqNil); rfl; rfl; rfl; rfl; intro bnil hbnil) | (refine J.takeRow rfl rfl AV.noConfusion rfl (by first | assumption | (simp only [List.length_map]; omega)) ?_) | with_reducible refine J.nil ?_ | ((with_reducible apply J.skipV); rfl; rfl; rfl) | ((with_reducible apply J.skipU); rfl; rfl) | with_reducible refine CW.seq ?_ | with_reducible refine CW.block ?_ | ((with_reducible refine CW.reg ?_ ?_); rfl) | ((with_reducible refine CW.regQN ?_ ?_ ?_ ?_); rfl; kernel_rfl; rfl) | ((with_reducible refine CW.regS 1 ?_ ?_ ?_); kernel_rfl; rfl; simp only [List.length_cons, List.length_nil, Nat.reduceAdd, Nat.reduceSub, List.take_succ_cons, List.take_zero, List.drop_succ_cons, List.drop_zero]) | with_reducible refine CW.skip ?_ | with_reducible refine CW.ret ?_ | with_reducible refine CW.exit ?_ | refine CW.condT rfl ?_ | refine CW.condF rfl ?_ | (refine CW.condD rfl (fun _ => ?_) (fun _ => ?_) <;> (try (exfalso; omega))) | (refine CW.cond rfl (fun _ => ?_) (fun _ => ?_) <;> (try (exfalso; simp only [decide_eq_true_eq, decide_eq_false_iff_not, Bool.and_eq_true, Bool.or_eq_true] at *; omega))) | with_reducible refine thenQ_n ?_ | with_reducible refine blockQ_n ?_ | ((with_reducible refine blockQ_e ?_ ?_); rfl) | ((with_reducible refine blockQ_x ?_ ?_); rfl) | with_reducible refine blockQ_r ?_ | with_reducible refine thenQ_x ?_ | with_reducible refine thenQ_r ?_ | ((fail_if_success ((with_reducible apply J.step); rfl)); (fail_if_success ((with_reducible apply J.skipU); rfl)); refine J.splitG rfl rfl (fun _ => ?_) (fun _ => ?_) <;> (try (exfalso; omega))) | ((fail_if_success ((with_reducible apply J.step); rfl)); (fail_if_success ((with_reducible apply J.skipU); rfl)); refine J.splitB rfl rfl (fun _ => ?_) (fun _ => ?_))))
    exact .mkL rfl (le_tup2 .nil (.refl _)) rfl
  | m + 1, i, T, hi, hT => by
    have hlen : (mtx n g w).length = n := mtx_length
    have h4 := hw.n4
    have h5 := hw.g4
    have h16 := pow_le_16 h5
    have hrow := mtx_get (m := g) (f := w) (by omega : i < n)
    have hrl : (tb g (w i)).length = g := tb_length
    have h0 := best_spec n g w hw wo m (i + 1) T (by omega) hT
    have b0 := bst_ok hw (wo := wo) m (i + 1) T (by omega)
    rw [show (((i + 1 : Nat)) : Int) = (i : Int) + 1 by omega] at h0
    refine FnSpec.enter (S := Sy) 0 Try.func99 rfl rfl rfl Try.ntmps99 rfl rfl rfl rfl fun v0 => ?_
    by_cases hwo : (i : Int) = wo
    · rw [bst_skip hwo]
      generalize bst g w wo m (i + 1) T = R at *
      (repeat' (first | ((with_reducible apply J.step); rfl; exact FM.st) | ((with_reducible apply J.eff); rfl; exact FM.ef) | ((with_reducible apply J.callP (h0)); rfl; rfl; (repeat' (first | exact ArgsOk.nil | apply ArgsOk.cons | exact ArgOk.pl rfl rfl | exact ArgOk.br rfl AV.noConfusion (by first | rfl | exact sh_int | exact sh_rows | exact sh_rowsO | exact sh_box | exact sh_map (fun _ => rfl)))); (first | rfl | exact (fun h => Bool.noConfusion h) | exact (fun _ => noSh_ints) | exact (fun _ => noSh_strs) | exact (fun _ => NoSh.str) | exact (fun _ => noSh_rows) | exact (fun _ => NoSh.int) | exact (fun _ => NoSh.bool) | exact (fun _ => NoSh.nil) | exact (fun _ => noSh_tup2 (by first | exact noSh_ints | exact noSh_strs | exact NoSh.str | exact noSh_rows | exact NoSh.nil | exact NoSh.int | exact NoSh.bool) (by first | exact noSh_ints | exact noSh_strs | exact NoSh.str | exact NoSh.int | exact NoSh.bool | exact noSh_rows | exact NoSh.nil)) | exact (fun _ => noSh_tup3 (by first | exact noSh_ints | exact noSh_strs | exact NoSh.str | exact noSh_rows | exact NoSh.nil | exact NoSh.int | exact NoSh.bool) (by first | exact noSh_ints | exact noSh_strs | exact NoSh.str | exact NoSh.int | exact NoSh.bool | exact noSh_rows | exact NoSh.nil) (by first | exact noSh_ints | exact noSh_strs | exact NoSh.str | exact NoSh.int | exact NoSh.bool | exact noSh_rows | exact NoSh.nil)))) | ((with_reducible apply J.callPQ (h0)); rfl; rfl; (repeat' (first | exact ArgsOk.nil | apply ArgsOk.cons | exact ArgOk.pl rfl rfl | exact ArgOk.br rfl AV.noConfusion (by first | rfl | exact sh_int | exact sh_rows | exact sh_rowsO | exact sh_box | exact sh_map (fun _ => rfl)))); rfl) | ((with_reducible apply J.eqNil); rfl; rfl; rfl; rfl; intro bnil hbnil) | (refine J.takeRow rfl rfl AV.noConfusion rfl (by first | assumption | (simp only [List.length_map]; omega)) ?_) | with_reducible refine J.nil ?_ | ((with_reducible apply J.skipV); rfl; rfl; rfl) | ((with_reducible apply J.skipU); rfl; rfl) | with_reducible refine CW.seq ?_ | with_reducible refine CW.block ?_ | ((with_reducible refine CW.reg ?_ ?_); rfl) | ((with_reducible refine CW.regQN ?_ ?_ ?_ ?_); rfl; kernel_rfl; rfl) | ((with_reducible refine CW.regS 1 ?_ ?_ ?_); kernel_rfl; rfl; simp only [List.length_cons, List.length_nil, Nat.reduceAdd, Nat.reduceSub, List.take_succ_cons, List.take_zero, List.drop_succ_cons, List.drop_zero]) | with_reducible refine CW.skip ?_ | with_reducible refine CW.ret ?_ | with_reducible refine CW.exit ?_ | refine CW.condT rfl ?_ | refine CW.condF rfl ?_ | (refine CW.condD rfl (fun _ => ?_) (fun _ => ?_) <;> (try (exfalso; omega))) | (refine CW.cond rfl (fun _ => ?_) (fun _ => ?_) <;> (try (exfalso; simp only [decide_eq_true_eq, decide_eq_false_iff_not, Bool.and_eq_true, Bool.or_eq_true] at *; omega))) | with_reducible refine thenQ_n ?_ | with_reducible refine blockQ_n ?_ | ((with_reducible refine blockQ_e ?_ ?_); rfl) | ((with_reducible refine blockQ_x ?_ ?_); rfl) | with_reducible refine blockQ_r ?_ | with_reducible refine thenQ_x ?_ | with_reducible refine thenQ_r ?_ | ((fail_if_success ((with_reducible apply J.step); rfl)); (fail_if_success ((with_reducible apply J.skipU); rfl)); refine J.splitG rfl rfl (fun _ => ?_) (fun _ => ?_) <;> (try (exfalso; omega))) | ((fail_if_success ((with_reducible apply J.step); rfl)); (fail_if_success ((with_reducible apply J.skipU); rfl)); refine J.splitB rfl rfl (fun _ => ?_) (fun _ => ?_))))
      exact .mk rfl rfl rfl
    · rw [bst_take hwo]
      have ih := fun T => bst_ok hw (wo := wo) m (i + 1) T (by omega)
      have hz : bstS g w wo m i T 0 = ((bst g w wo m (i + 1) T).1, (bst g w wo m (i + 1) T).2, -1) := rfl
      (repeat' (first | ((with_reducible apply J.step); rfl; exact FM.st) | ((with_reducible apply J.eff); rfl; exact FM.ef) | ((with_reducible apply J.callP (h0)); rfl; rfl; (repeat' (first | exact ArgsOk.nil | apply ArgsOk.cons | exact ArgOk.pl rfl rfl | exact ArgOk.br rfl AV.noConfusion (by first | rfl | exact sh_int | exact sh_rows | exact sh_rowsO | exact sh_box | exact sh_map (fun _ => rfl)))); (first | rfl | exact (fun h => Bool.noConfusion h) | exact (fun _ => noSh_ints) | exact (fun _ => noSh_strs) | exact (fun _ => NoSh.str) | exact (fun _ => noSh_rows) | exact (fun _ => NoSh.int) | exact (fun _ => NoSh.bool) | exact (fun _ => NoSh.nil) | exact (fun _ => noSh_tup2 (by first | exact noSh_ints | exact noSh_strs | exact NoSh.str | exact noSh_rows | exact NoSh.nil | exact NoSh.int | exact NoSh.bool) (by first | exact noSh_ints | exact noSh_strs | exact NoSh.str | exact NoSh.int | exact NoSh.bool | exact noSh_rows | exact NoSh.nil)) | exact (fun _ => noSh_tup3 (by first | exact noSh_ints | exact noSh_strs | exact NoSh.str | exact noSh_rows | exact NoSh.nil | exact NoSh.int | exact NoSh.bool) (by first | exact noSh_ints | exact noSh_strs | exact NoSh.str | exact NoSh.int | exact NoSh.bool | exact noSh_rows | exact NoSh.nil) (by first | exact noSh_ints | exact noSh_strs | exact NoSh.str | exact NoSh.int | exact NoSh.bool | exact noSh_rows | exact NoSh.nil)))) | ((with_reducible apply J.callPQ (h0)); rfl; rfl; (repeat' (first | exact ArgsOk.nil | apply ArgsOk.cons | exact ArgOk.pl rfl rfl | exact ArgOk.br rfl AV.noConfusion (by first | rfl | exact sh_int | exact sh_rows | exact sh_rowsO | exact sh_box | exact sh_map (fun _ => rfl)))); rfl) | ((with_reducible apply J.eqNil); rfl; rfl; rfl; rfl; intro bnil hbnil) | (refine J.takeRow rfl rfl AV.noConfusion rfl (by first | assumption | (simp only [List.length_map]; omega)) ?_) | with_reducible refine J.nil ?_ | ((with_reducible apply J.skipV); rfl; rfl; rfl) | ((with_reducible apply J.skipU); rfl; rfl) | with_reducible refine CW.seq ?_ | with_reducible refine CW.block ?_ | ((with_reducible refine CW.reg ?_ ?_); rfl) | ((with_reducible refine CW.regQN ?_ ?_ ?_ ?_); rfl; kernel_rfl; rfl) | ((with_reducible refine CW.regS 1 ?_ ?_ ?_); kernel_rfl; rfl; simp only [List.length_cons, List.length_nil, Nat.reduceAdd, Nat.reduceSub, List.take_succ_cons, List.take_zero, List.drop_succ_cons, List.drop_zero]) | with_reducible refine CW.skip ?_ | with_reducible refine CW.ret ?_ | with_reducible refine CW.exit ?_ | refine CW.condT rfl ?_ | refine CW.condF rfl ?_ | (refine CW.condD rfl (fun _ => ?_) (fun _ => ?_) <;> (try (exfalso; omega))) | (refine CW.cond rfl (fun _ => ?_) (fun _ => ?_) <;> (try (exfalso; simp only [decide_eq_true_eq, decide_eq_false_iff_not, Bool.and_eq_true, Bool.or_eq_true] at *; omega))) | with_reducible refine thenQ_n ?_ | with_reducible refine blockQ_n ?_ | ((with_reducible refine blockQ_e ?_ ?_); rfl) | ((with_reducible refine blockQ_x ?_ ?_); rfl) | with_reducible refine blockQ_r ?_ | with_reducible refine thenQ_x ?_ | with_reducible refine thenQ_r ?_ | ((fail_if_success ((with_reducible apply J.step); rfl)); (fail_if_success ((with_reducible apply J.skipU); rfl)); refine J.splitG rfl rfl (fun _ => ?_) (fun _ => ?_) <;> (try (exfalso; omega))) | ((fail_if_success ((with_reducible apply J.step); rfl)); (fail_if_success ((with_reducible apply J.skipU); rfl)); refine J.splitB rfl rfl (fun _ => ?_) (fun _ => ?_))))
      refine CW.loop (fun k : Nat => [(0, .av (.sl false 1 ((mtx n g w).map rwS))), (1, .av (.int (i))), (2, .av (.int (T))), (3, .av (.int (wo))), (10, .av (.sl true 1 (((bstS g w wo m i T k).1).map .int))), (11, .av (.int ((bstS g w wo m i T k).2.1))), (12, .av (.int ((bstS g w wo m i T k).2.2))), (36, .av (.sl false 1 ((tb g (w i)).map .int))), (37, .av (.int (g))), (38, .av (.int (k)))]) (fun k => k ≤ g) (fun k => g - k) (0) ?_ (by (repeat' (first | exact trivial | rfl | refine And.intro ?_ ?_ | exact int_congr (by omega) | exact ints_congr (by first | assumption | exact Eq.symm (by assumption)) | exact int_congr (by assumption) | exact bool_congr (by first | assumption | exact Eq.symm (by assumption)) | exact map_congr' (by first | assumption | exact Eq.symm (by assumption))))) ?_
      · exact Nat.zero_le _
      intro k hk
      obtain ⟨s1, s2, s3, s4, s5⟩ := bstS_ok hw (by omega) ih (T := T) k hk
      by_cases hkl : k < g
      · have g1 := tb_get (g := w i) hkl
        have hp := pow_le_8 hkl h5
        have hsh := shr_le T k
        have hr := hw.range i k (by omega) hkl
        have e := bstS_succ (g := g) (w := w) (wo := wo) (m := m) (i := i) (T := T) (k := k)
        by_cases hc : shr T k % 2 = 0
        · have h1 := best_spec n g w hw wo m (i + 1) (T ||| 2 ^ k) (by omega) (Nat.or_lt_two_pow hT (Nat.pow_lt_pow_right (by decide) hkl))
          have b1 := ih (T ||| 2 ^ k)
          rw [show (((i + 1 : Nat)) : Int) = (i : Int) + 1 by omega] at h1
          generalize bst g w wo m (i + 1) (T ||| 2 ^ k) = R at *
          by_cases hv : (bstS g w wo m i T k).2.1 < w i k + R.2
          · rw [if_pos ⟨hc, hv⟩] at e
            (repeat' (first | ((with_reducible apply J.step); rfl; exact FM.st) | ((with_reducible apply J.eff); rfl; exact FM.ef) | ((with_reducible apply J.callP (h1)); rfl; rfl; (repeat' (first | exact ArgsOk.nil | apply ArgsOk.cons | exact ArgOk.pl rfl rfl | exact ArgOk.br rfl AV.noConfusion (by first | rfl | exact sh_int | exact sh_rows | exact sh_rowsO | exact sh_box | exact sh_map (fun _ => rfl)))); (first | rfl | exact (fun h => Bool.noConfusion h) | exact (fun _ => noSh_ints) | exact (fun _ => noSh_strs) | exact (fun _ => NoSh.str) | exact (fun _ => noSh_rows) | exact (fun _ => NoSh.int) | exact (fun _ => NoSh.bool) | exact (fun _ => NoSh.nil) | exact (fun _ => noSh_tup2 (by first | exact noSh_ints | exact noSh_strs | exact NoSh.str | exact noSh_rows | exact NoSh.nil | exact NoSh.int | exact NoSh.bool) (by first | exact noSh_ints | exact noSh_strs | exact NoSh.str | exact NoSh.int | exact NoSh.bool | exact noSh_rows | exact NoSh.nil)) | exact (fun _ => noSh_tup3 (by first | exact noSh_ints | exact noSh_strs | exact NoSh.str | exact noSh_rows | exact NoSh.nil | exact NoSh.int | exact NoSh.bool) (by first | exact noSh_ints | exact noSh_strs | exact NoSh.str | exact NoSh.int | exact NoSh.bool | exact noSh_rows | exact NoSh.nil) (by first | exact noSh_ints | exact noSh_strs | exact NoSh.str | exact NoSh.int | exact NoSh.bool | exact noSh_rows | exact NoSh.nil)))) | ((with_reducible apply J.callPQ (h1)); rfl; rfl; (repeat' (first | exact ArgsOk.nil | apply ArgsOk.cons | exact ArgOk.pl rfl rfl | exact ArgOk.br rfl AV.noConfusion (by first | rfl | exact sh_int | exact sh_rows | exact sh_rowsO | exact sh_box | exact sh_map (fun _ => rfl)))); rfl) | ((with_reducible apply J.eqNil); rfl; rfl; rfl; rfl; intro bnil hbnil) | (refine J.takeRow rfl rfl AV.noConfusion rfl (by first | assumption | (simp only [List.length_map]; omega)) ?_) | with_reducible refine J.nil ?_ | ((with_reducible apply J.skipV); rfl; rfl; rfl) | ((with_reducible apply J.skipU); rfl; rfl) | with_reducible refine CW.seq ?_ | with_reducible refine CW.block ?_ | ((with_reducible refine CW.reg ?_ ?_); rfl) | ((with_reducible refine CW.regQN ?_ ?_ ?_ ?_); rfl; kernel_rfl; rfl) | ((with_reducible refine CW.regS 1 ?_ ?_ ?_); kernel_rfl; rfl; simp only [List.length_cons, List.length_nil, Nat.reduceAdd, Nat.reduceSub, List.take_succ_cons, List.take_zero, List.drop_succ_cons, List.drop_zero]) | with_reducible refine CW.skip ?_ | with_reducible refine CW.ret ?_ | with_reducible refine CW.exit ?_ | refine CW.condT rfl ?_ | refine CW.condF rfl ?_ | (refine CW.condD rfl (fun _ => ?_) (fun _ => ?_) <;> (try (exfalso; omega))) | (refine CW.cond rfl (fun _ => ?_) (fun _ => ?_) <;> (try (exfalso; simp only [decide_eq_true_eq, decide_eq_false_iff_not, Bool.and_eq_true, Bool.or_eq_true] at *; omega))) | with_reducible refine thenQ_n ?_ | with_reducible refine blockQ_n ?_ | ((with_reducible refine blockQ_e ?_ ?_); rfl) | ((with_reducible refine blockQ_x ?_ ?_); rfl) | with_reducible refine blockQ_r ?_ | with_reducible refine thenQ_x ?_ | with_reducible refine thenQ_r ?_ | ((fail_if_success ((with_reducible apply J.step); rfl)); (fail_if_success ((with_reducible apply J.skipU); rfl)); refine J.splitG rfl rfl (fun _ => ?_) (fun _ => ?_) <;> (try (exfalso; omega))) | ((fail_if_success ((with_reducible apply J.step); rfl)); (fail_if_success ((with_reducible apply J.skipU); rfl)); refine J.splitB rfl rfl (fun _ => ?_) (fun _ => ?_))))
            refine ⟨k+1, ?_, by first | omega | (simp only; omega), by (repeat' (first | exact trivial | rfl | refine And.intro ?_ ?_ | exact int_congr (by omega) | exact ints_congr (by first | assumption | exact Eq.symm (by assumption)) | exact int_congr (by assumption) | exact bool_congr (by first | assumption | exact Eq.symm (by assumption)) | exact map_congr' (by first | assumption | exact Eq.symm (by assumption)) | (rw [e]; rfl)))⟩
            omega
          · rw [if_neg (by omega)] at e
            (repeat' (first | ((with_reducible apply J.step); rfl; exact FM.st) | ((with_reducible apply J.eff); rfl; exact FM.ef) | ((with_reducible apply J.callP (h1)); rfl; rfl; (repeat' (first | exact ArgsOk.nil | apply ArgsOk.cons | exact ArgOk.pl rfl rfl | exact ArgOk.br rfl AV.noConfusion (by first | rfl | exact sh_int | exact sh_rows | exact sh_rowsO | exact sh_box | exact sh_map (fun _ => rfl)))); (first | rfl | exact (fun h => Bool.noConfusion h) | exact (fun _ => noSh_ints) | exact (fun _ => noSh_strs) | exact (fun _ => NoSh.str) | exact (fun _ => noSh_rows) | exact (fun _ => NoSh.int) | exact (fun _ => NoSh.bool) | exact (fun _ => NoSh.nil) | exact (fun _ => noSh_tup2 (by first | exact noSh_ints | exact noSh_strs | exact NoSh.str | exact noSh_rows | exact NoSh.nil | exact NoSh.int | exact NoSh.bool) (by first | exact noSh_ints | exact noSh_strs | exact NoSh.str | exact NoSh.int | exact NoSh.bool | exact noSh_rows | exact NoSh.nil)) | exact (fun _ => noSh_tup3 (by first | exact noSh_ints | exact noSh_strs | exact NoSh.str | exact noSh_rows | exact NoSh.nil | exact NoSh.int | exact NoSh.bool) (by first | exact noSh_ints | exact noSh_strs | exact NoSh.str | exact NoSh.int | exact NoSh.bool | exact noSh_rows | exact NoSh.nil) (by first | exact noSh_ints | exact noSh_strs | exact NoSh.str | exact NoSh.int | exact NoSh.bool | exact noSh_rows | exact NoSh.nil)))) | ((with_reducible apply J.callPQ (h1)); rfl; rfl; (repeat' (first | exact ArgsOk.nil | apply ArgsOk.cons | exact ArgOk.pl rfl rfl | exact ArgOk.br rfl AV.noConfusion (by first | rfl | exact sh_int | exact sh_rows | exact sh_rowsO | exact sh_box | exact sh_map (fun _ => rfl)))); rfl) | ((with_reducible apply J.eqNil); rfl; rfl; rfl; rfl; intro bnil hbnil) | (refine J.takeRow rfl rfl AV.noConfusion rfl (by first | assumption | (simp only [List.length_map]; omega)) ?_) | with_reducible refine J.nil ?_ | ((with_reducible apply J.skipV); rfl; rfl; rfl) | ((with_reducible apply J.skipU); rfl; rfl) | with_reducible refine CW.seq ?_ | with_reducible refine CW.block ?_ | ((with_reducible refine CW.reg ?_ ?_); rfl) | ((with_reducible refine CW.regQN ?_ ?_ ?_ ?_); rfl; kernel_rfl; rfl) | ((with_reducible refine CW.regS 1 ?_ ?_ ?_); kernel_rfl; rfl; simp only [List.length_cons, List.length_nil, Nat.reduceAdd, Nat.reduceSub, List.take_succ_cons, List.take_zero, List.drop_succ_cons, List.drop_zero]) | with_reducible refine CW.skip ?_ | with_reducible refine CW.ret ?_ | with_reducible refine CW.exit ?_ | refine CW.condT rfl ?_ | refine CW.condF rfl ?_ | (refine CW.condD rfl (fun _ => ?_) (fun _ => ?_) <;> (try (exfalso; omega))) | (refine CW.cond rfl (fun _ => ?_) (fun _ => ?_) <;> (try (exfalso; simp only [decide_eq_true_eq, decide_eq_false_iff_not, Bool.and_eq_true, Bool.or_eq_true] at *; omega))) | with_reducible refine thenQ_n ?_ | with_reducible refine blockQ_n ?_ | ((with_reducible refine blockQ_e ?_ ?_); rfl) | ((with_reducible refine blockQ_x ?_ ?_); rfl) | with_reducible refine blockQ_r ?_ | with_reducible refine thenQ_x ?_ | with_reducible refine thenQ_r ?_ | ((fail_if_success ((with_reducible apply J.step); rfl)); (fail_if_success ((with_reducible apply J.skipU); rfl)); refine J.splitG rfl rfl (fun _ => ?_) (fun _ => ?_) <;> (try (exfalso; omega))) | ((fail_if_success ((with_reducible apply J.step); rfl)); (fail_if_success ((with_reducible apply J.skipU); rfl)); refine J.splitB rfl rfl (fun _ => ?_) (fun _ => ?_))))
            refine ⟨k+1, ?_, by first | omega | (simp only; omega), by (repeat' (first | exact trivial | rfl | refine And.intro ?_ ?_ | exact int_congr (by omega) | exact ints_congr (by first | assumption | exact Eq.symm (by assumption)) | exact int_congr (by assumption) | exact bool_congr (by first | assumption | exact Eq.symm (by assumption)) | exact map_congr' (by first | assumption | exact Eq.symm (by assumption)) | (rw [e]; rfl)))⟩
            omega
        · rw [if_neg (by omega)] at e
          (repeat' (first | ((with_reducible apply J.step); rfl; exact FM.st) | ((with_reducible apply J.eff); rfl; exact FM.ef) | ((with_reducible apply J.eqNil); rfl; rfl; rfl; rfl; intro bnil hbnil) | (refine J.takeRow rfl rfl AV.noConfusion rfl (by first | assumption | (simp only [List.length_map]; omega)) ?_) | with_reducible refine J.nil ?_ | ((with_reducible apply J.skipV); rfl; rfl; rfl) | ((with_reducible apply J.skipU); rfl; rfl) | with_reducible refine CW.seq ?_ | with_reducible refine CW.block ?_ | ((with_reducible refine CW.reg ?_ ?_); rfl) | ((with_reducible refine CW.regQN ?_ ?_ ?_ ?_); rfl; kernel_rfl; rfl) | ((with_reducible refine CW.regS 1 ?_ ?_ ?_); kernel_rfl; rfl; simp only [List.length_cons, List.length_nil, Nat.reduceAdd, Nat.reduceSub, List.take_succ_cons, List.take_zero, List.drop_succ_cons, List.drop_zero]) | with_reducible refine CW.skip ?_ | with_reducible refine CW.ret ?_ | with_reducible refine CW.exit ?_ | refine CW.condT rfl ?_ | refine CW.condF rfl ?_ | (refine CW.condD rfl (fun _ => ?_) (fun _ => ?_) <;> (try (exfalso; omega))) | (refine CW.cond rfl (fun _ => ?_) (fun _ => ?_) <;> (try (exfalso; simp only [decide_eq_true_eq, decide_eq_false_iff_not, Bool.and_eq_true, Bool.or_eq_true] at *; omega))) | with_reducible refine thenQ_n ?_ | with_reducible refine blockQ_n ?_ | ((with_reducible refine blockQ_e ?_ ?_); rfl) | ((with_reducible refine blockQ_x ?_ ?_); rfl) | with_reducible refine blockQ_r ?_ | with_reducible refine thenQ_x ?_ | with_reducible refine thenQ_r ?_ | ((fail_if_success ((with_reducible apply J.step); rfl)); (fail_if_success ((with_reducible apply J.skipU); rfl)); refine J.splitG rfl rfl (fun _ => ?_) (fun _ => ?_) <;> (try (exfalso; omega))) | ((fail_if_success ((with_reducible apply J.step); rfl)); (fail_if_success ((with_reducible apply J.skipU); rfl)); refine J.splitB rfl rfl (fun _ => ?_) (fun _ => ?_))))
          refine ⟨k+1, ?_, by first | omega | (simp only; omega), by (repeat' (first | exact trivial | rfl | refine And.intro ?_ ?_ | exact int_congr (by omega) | exact ints_congr (by first | assumption | exact Eq.symm (by assumption)) | exact int_congr (by assumption) | exact bool_congr (by first | assumption | exact Eq.symm (by assumption)) | exact map_congr' (by first | assumption | exact Eq.symm (by assumption)) | (rw [e]; rfl)))⟩
          omega
      · obtain rfl : k = g := by omega
        (repeat' (first | ((with_reducible apply J.step); rfl; exact FM.st) | ((with_reducible apply J.eff); rfl; exact FM.ef) | ((with_reducible apply J.eqNil); rfl; rfl; rfl; rfl; intro bnil hbnil) | (refine J.takeRow rfl rfl AV.noConfusion rfl (by first | assumption | (simp only [List.length_map]; omega)) ?_) | with_reducible refine J.nil ?_ | ((with_reducible apply J.skipV); rfl; rfl; rfl) | ((with_reducible apply J.skipU); rfl; rfl) | with_reducible refine CW.seq ?_ | with_reducible refine CW.block ?_ | ((with_reducible refine CW.reg ?_ ?_); rfl) | ((with_reducible refine CW.regQN ?_ ?_ ?_ ?_); rfl; kernel_rfl; rfl) | ((with_reducible refine CW.regS 1 ?_ ?_ ?_); kernel_rfl; rfl; simp only [List.length_cons, List.length_nil, Nat.reduceAdd, Nat.reduceSub, List.take_succ_cons, List.take_zero, List.drop_succ_cons, List.drop_zero]) | with_reducible refine CW.skip ?_ | with_reducible refine CW.ret ?_ | with_reducible refine CW.exit ?_ | refine CW.condT rfl ?_ | refine CW.condF rfl ?_ | (refine CW.condD rfl (fun _ => ?_) (fun _ => ?_) <;> (try (exfalso; omega))) | (refine CW.cond rfl (fun _ => ?_) (fun _ => ?_) <;> (try (exfalso; simp only [decide_eq_true_eq, decide_eq_false_iff_not, Bool.and_eq_true, Bool.or_eq_true] at *; omega))) | with_reducible refine thenQ_n ?_ | with_reducible refine blockQ_n ?_ | ((with_reducible refine blockQ_e ?_ ?_); rfl) | ((with_reducible refine blockQ_x ?_ ?_); rfl) | with_reducible refine blockQ_r ?_ | with_reducible refine thenQ_x ?_ | with_reducible refine thenQ_r ?_ | ((fail_if_success ((with_reducible apply J.step); rfl)); (fail_if_success ((with_reducible apply J.skipU); rfl)); refine J.splitG rfl rfl (fun _ => ?_) (fun _ => ?_) <;> (try (exfalso; omega))) | ((fail_if_success ((with_reducible apply J.step); rfl)); (fail_if_success ((with_reducible apply J.skipU); rfl)); refine J.splitB rfl rfl (fun _ => ?_) (fun _ => ?_))))
        exact .mk rfl rfl rfl
theorem share_spec (n g : Nat) (w : Nat → Nat → Int) (hw : GTab n g w) (hC : FnSpec Sy.P 98 [.sl false 1 ((mtx n g w).map rwS)] [.sl false 1 ((mtx n g w).map rwS)] (.int 0)) : FnSpec Sy.P 46 [.sl false 1 ((mtx n g w).map rwS)] [.sl false 1 ((mtx n g w).map rwS)] (.tup [.sl true 1 (((bst g w (-1) n 0 0).1).map .int), .int (bst g w (-1) n 0 0).2, .int 0]) := by
  have hB := best_spec n g w hw (-1) n 0 0 (by omega) (Nat.two_pow_pos g)
  refine FnSpec.enter (S := Sy) 0 Try.func46 rfl rfl rfl Try.ntmps46 rfl rfl rfl rfl fun v0 => ?_
  (repeat' (first | ((with_reducible apply J.step); rfl; exact FM.st) | ((with_reducible apply J.eff); rfl; exact FM.ef) | ((with_reducible apply J.callP (hC)); rfl; rfl; (repeat' (first | exact ArgsOk.nil | apply ArgsOk.cons | exact ArgOk.pl rfl rfl | exact ArgOk.br rfl AV.noConfusion (by first | rfl | exact sh_int | exact sh_rows | exact sh_rowsO | exact sh_box | exact sh_map (fun _ => rfl)))); (first | rfl | exact (fun h => Bool.noConfusion h) | exact (fun _ => noSh_ints) | exact (fun _ => noSh_strs) | exact (fun _ => NoSh.str) | exact (fun _ => noSh_rows) | exact (fun _ => NoSh.int) | exact (fun _ => NoSh.bool) | exact (fun _ => NoSh.nil) | exact (fun _ => noSh_tup2 (by first | exact noSh_ints | exact noSh_strs | exact NoSh.str | exact noSh_rows | exact NoSh.nil | exact NoSh.int | exact NoSh.bool) (by first | exact noSh_ints | exact noSh_strs | exact NoSh.str | exact NoSh.int | exact NoSh.bool | exact noSh_rows | exact NoSh.nil)) | exact (fun _ => noSh_tup3 (by first | exact noSh_ints | exact noSh_strs | exact NoSh.str | exact noSh_rows | exact NoSh.nil | exact NoSh.int | exact NoSh.bool) (by first | exact noSh_ints | exact noSh_strs | exact NoSh.str | exact NoSh.int | exact NoSh.bool | exact noSh_rows | exact NoSh.nil) (by first | exact noSh_ints | exact noSh_strs | exact NoSh.str | exact NoSh.int | exact NoSh.bool | exact noSh_rows | exact NoSh.nil)))) | ((with_reducible apply J.callPQ (hC)); rfl; rfl; (repeat' (first | exact ArgsOk.nil | apply ArgsOk.cons | exact ArgOk.pl rfl rfl | exact ArgOk.br rfl AV.noConfusion (by first | rfl | exact sh_int | exact sh_rows | exact sh_rowsO | exact sh_box | exact sh_map (fun _ => rfl)))); rfl) | ((with_reducible apply J.callP (hB)); rfl; rfl; (repeat' (first | exact ArgsOk.nil | apply ArgsOk.cons | exact ArgOk.pl rfl rfl | exact ArgOk.br rfl AV.noConfusion (by first | rfl | exact sh_int | exact sh_rows | exact sh_rowsO | exact sh_box | exact sh_map (fun _ => rfl)))); (first | rfl | exact (fun h => Bool.noConfusion h) | exact (fun _ => noSh_ints) | exact (fun _ => noSh_strs) | exact (fun _ => NoSh.str) | exact (fun _ => noSh_rows) | exact (fun _ => NoSh.int) | exact (fun _ => NoSh.bool) | exact (fun _ => NoSh.nil) | exact (fun _ => noSh_tup2 (by first | exact noSh_ints | exact noSh_strs | exact NoSh.str | exact noSh_rows | exact NoSh.nil | exact NoSh.int | exact NoSh.bool) (by first | exact noSh_ints | exact noSh_strs | exact NoSh.str | exact NoSh.int | exact NoSh.bool | exact noSh_rows | exact NoSh.nil)) | exact (fun _ => noSh_tup3 (by first | exact noSh_ints | exact noSh_strs | exact NoSh.str | exact noSh_rows | exact NoSh.nil | exact NoSh.int | exact NoSh.bool) (by first | exact noSh_ints | exact noSh_strs | exact NoSh.str | exact NoSh.int | exact NoSh.bool | exact noSh_rows | exact NoSh.nil) (by first | exact noSh_ints | exact noSh_strs | exact NoSh.str | exact NoSh.int | exact NoSh.bool | exact noSh_rows | exact NoSh.nil)))) | ((with_reducible apply J.callPQ (hB)); rfl; rfl; (repeat' (first | exact ArgsOk.nil | apply ArgsOk.cons | exact ArgOk.pl rfl rfl | exact ArgOk.br rfl AV.noConfusion (by first | rfl | exact sh_int | exact sh_rows | exact sh_rowsO | exact sh_box | exact sh_map (fun _ => rfl)))); rfl) | ((with_reducible apply J.eqNil); rfl; rfl; rfl; rfl; intro bnil hbnil) | (refine J.takeRow rfl rfl AV.noConfusion rfl (by first | assumption | (simp only [List.length_map]; omega)) ?_) | with_reducible refine J.nil ?_ | ((with_reducible apply J.skipV); rfl; rfl; rfl) | ((with_reducible apply J.skipU); rfl; rfl) | with_reducible refine CW.seq ?_ | with_reducible refine CW.block ?_ | ((with_reducible refine CW.reg ?_ ?_); rfl) | ((with_reducible refine CW.regQN ?_ ?_ ?_ ?_); rfl; kernel_rfl; rfl) | ((with_reducible refine CW.regS 1 ?_ ?_ ?_); kernel_rfl; rfl; simp only [List.length_cons, List.length_nil, Nat.reduceAdd, Nat.reduceSub, List.take_succ_cons, List.take_zero, List.drop_succ_cons, List.drop_zero]) | with_reducible refine CW.skip ?_ | with_reducible refine CW.ret ?_ | with_reducible refine CW.exit ?_ | refine CW.condT rfl ?_ | refine CW.condF rfl ?_ | (refine CW.condD rfl (fun _ => ?_) (fun _ => ?_) <;> (try (exfalso; omega))) | (refine CW.cond rfl (fun _ => ?_) (fun _ => ?_) <;> (try (exfalso; simp only [decide_eq_true_eq, decide_eq_false_iff_not, Bool.and_eq_true, Bool.or_eq_true] at *; omega))) | with_reducible refine thenQ_n ?_ | with_reducible refine blockQ_n ?_ | ((with_reducible refine blockQ_e ?_ ?_); rfl) | ((with_reducible refine blockQ_x ?_ ?_); rfl) | with_reducible refine blockQ_r ?_ | with_reducible refine thenQ_x ?_ | with_reducible refine thenQ_r ?_ | ((fail_if_success ((with_reducible apply J.step); rfl)); (fail_if_success ((with_reducible apply J.skipU); rfl)); refine J.splitG rfl rfl (fun _ => ?_) (fun _ => ?_) <;> (try (exfalso; omega))) | ((fail_if_success ((with_reducible apply J.step); rfl)); (fail_if_success ((with_reducible apply J.skipU); rfl)); refine J.splitB rfl rfl (fun _ => ?_) (fun _ => ?_))))
  exact .mk rfl rfl rfl
theorem shareErr_spec (M : List (List Int)) (h : goodE M ≠ 0) (hC : FnSpec Sy.P 98 [.sl false 1 ((M).map rwS)] [.sl false 1 ((M).map rwS)] (.int (goodE M))) : FnSpec Sy.P 46 [.sl false 1 ((M).map rwS)] [.sl false 1 ((M).map rwS)] (.tup [.nil, .int 0, .int (goodE M)]) := by
  refine FnSpec.enter (S := Sy) 0 Try.func46 rfl rfl rfl Try.ntmps46 rfl rfl rfl rfl fun v0 => ?_
  (repeat' (first | ((with_reducible apply J.step); rfl; exact FM.st) | ((with_reducible apply J.eff); rfl; exact FM.ef) | ((with_reducible apply J.callP (hC)); rfl; rfl; (repeat' (first | exact ArgsOk.nil | apply ArgsOk.cons | exact ArgOk.pl rfl rfl | exact ArgOk.br rfl AV.noConfusion (by first | rfl | exact sh_int | exact sh_rows | exact sh_rowsO | exact sh_box | exact sh_map (fun _ => rfl)))); (first | rfl | exact (fun h => Bool.noConfusion h) | exact (fun _ => noSh_ints) | exact (fun _ => noSh_strs) | exact (fun _ => NoSh.str) | exact (fun _ => noSh_rows) | exact (fun _ => NoSh.int) | exact (fun _ => NoSh.bool) | exact (fun _ => NoSh.nil) | exact (fun _ => noSh_tup2 (by first | exact noSh_ints | exact noSh_strs | exact NoSh.str | exact noSh_rows | exact NoSh.nil | exact NoSh.int | exact NoSh.bool) (by first | exact noSh_ints | exact noSh_strs | exact NoSh.str | exact NoSh.int | exact NoSh.bool | exact noSh_rows | exact NoSh.nil)) | exact (fun _ => noSh_tup3 (by first | exact noSh_ints | exact noSh_strs | exact NoSh.str | exact noSh_rows | exact NoSh.nil | exact NoSh.int | exact NoSh.bool) (by first | exact noSh_ints | exact noSh_strs | exact NoSh.str | exact NoSh.int | exact NoSh.bool | exact noSh_rows | exact NoSh.nil) (by first | exact noSh_ints | exact noSh_strs | exact NoSh.str | exact NoSh.int | exact NoSh.bool | exact noSh_rows | exact NoSh.nil)))) | ((with_reducible apply J.callPQ (hC)); rfl; rfl; (repeat' (first | exact ArgsOk.nil | apply ArgsOk.cons | exact ArgOk.pl rfl rfl | exact ArgOk.br rfl AV.noConfusion (by first | rfl | exact sh_int | exact sh_rows | exact sh_rowsO | exact sh_box | exact sh_map (fun _ => rfl)))); rfl) | ((with_reducible apply J.eqNil); rfl; rfl; rfl; rfl; intro bnil hbnil) | (refine J.takeRow rfl rfl AV.noConfusion rfl (by first | assumption | (simp only [List.length_map]; omega)) ?_) | with_reducible refine J.nil ?_ | ((with_reducible apply J.skipV); rfl; rfl; rfl) | ((with_reducible apply J.skipU); rfl; rfl) | with_reducible refine CW.seq ?_ | with_reducible refine CW.block ?_ | ((with_reducible refine CW.reg ?_ ?_); rfl) | ((with_reducible refine CW.regQN ?_ ?_ ?_ ?_); rfl; kernel_rfl; rfl) | ((with_reducible refine CW.regS 1 ?_ ?_ ?_); kernel_rfl; rfl; simp only [List.length_cons, List.length_nil, Nat.reduceAdd, Nat.reduceSub, List.take_succ_cons, List.take_zero, List.drop_succ_cons, List.drop_zero]) | with_reducible refine CW.skip ?_ | with_reducible refine CW.ret ?_ | with_reducible refine CW.exit ?_ | refine CW.condT rfl ?_ | refine CW.condF rfl ?_ | (refine CW.condD rfl (fun _ => ?_) (fun _ => ?_) <;> (try (exfalso; omega))) | (refine CW.cond rfl (fun _ => ?_) (fun _ => ?_) <;> (try (exfalso; simp only [decide_eq_true_eq, decide_eq_false_iff_not, Bool.and_eq_true, Bool.or_eq_true] at *; omega))) | with_reducible refine thenQ_n ?_ | with_reducible refine blockQ_n ?_ | ((with_reducible refine blockQ_e ?_ ?_); rfl) | ((with_reducible refine blockQ_x ?_ ?_); rfl) | with_reducible refine blockQ_r ?_ | with_reducible refine thenQ_x ?_ | with_reducible refine thenQ_r ?_ | ((fail_if_success ((with_reducible apply J.step); rfl)); (fail_if_success ((with_reducible apply J.skipU); rfl)); refine J.splitG rfl rfl (fun _ => ?_) (fun _ => ?_) <;> (try (exfalso; omega))) | ((fail_if_success ((with_reducible apply J.step); rfl)); (fail_if_success ((with_reducible apply J.skipU); rfl)); refine J.splitB rfl rfl (fun _ => ?_) (fun _ => ?_))))
  exact .mk rfl rfl rfl
theorem paysErr_spec (M : List (List Int)) (h : goodE M ≠ 0) (hC : FnSpec Sy.P 98 [.sl false 1 ((M).map rwS)] [.sl false 1 ((M).map rwS)] (.int (goodE M))) : FnSpec Sy.P 47 [.sl false 1 ((M).map rwS)] [.sl false 1 ((M).map rwS)] (.tup [.nil, .int (goodE M)]) := by
  have hS := shareErr_spec M h hC
  refine FnSpec.enter (S := Sy) 0 Try.func47 rfl rfl rfl Try.ntmps47 rfl rfl rfl rfl fun v0 => ?_
  (repeat' (first | ((with_reducible apply J.step); rfl; exact FM.st) | ((with_reducible apply J.eff); rfl; exact FM.ef) | ((with_reducible apply J.callP (hS)); rfl; rfl; (repeat' (first | exact ArgsOk.nil | apply ArgsOk.cons | exact ArgOk.pl rfl rfl | exact ArgOk.br rfl AV.noConfusion (by first | rfl | exact sh_int | exact sh_rows | exact sh_rowsO | exact sh_box | exact sh_map (fun _ => rfl)))); (first | rfl | exact (fun h => Bool.noConfusion h) | exact (fun _ => noSh_ints) | exact (fun _ => noSh_strs) | exact (fun _ => NoSh.str) | exact (fun _ => noSh_rows) | exact (fun _ => NoSh.int) | exact (fun _ => NoSh.bool) | exact (fun _ => NoSh.nil) | exact (fun _ => noSh_tup2 (by first | exact noSh_ints | exact noSh_strs | exact NoSh.str | exact noSh_rows | exact NoSh.nil | exact NoSh.int | exact NoSh.bool) (by first | exact noSh_ints | exact noSh_strs | exact NoSh.str | exact NoSh.int | exact NoSh.bool | exact noSh_rows | exact NoSh.nil)) | exact (fun _ => noSh_tup3 (by first | exact noSh_ints | exact noSh_strs | exact NoSh.str | exact noSh_rows | exact NoSh.nil | exact NoSh.int | exact NoSh.bool) (by first | exact noSh_ints | exact noSh_strs | exact NoSh.str | exact NoSh.int | exact NoSh.bool | exact noSh_rows | exact NoSh.nil) (by first | exact noSh_ints | exact noSh_strs | exact NoSh.str | exact NoSh.int | exact NoSh.bool | exact noSh_rows | exact NoSh.nil)))) | ((with_reducible apply J.callPQ (hS)); rfl; rfl; (repeat' (first | exact ArgsOk.nil | apply ArgsOk.cons | exact ArgOk.pl rfl rfl | exact ArgOk.br rfl AV.noConfusion (by first | rfl | exact sh_int | exact sh_rows | exact sh_rowsO | exact sh_box | exact sh_map (fun _ => rfl)))); rfl) | ((with_reducible apply J.eqNil); rfl; rfl; rfl; rfl; intro bnil hbnil) | (refine J.takeRow rfl rfl AV.noConfusion rfl (by first | assumption | (simp only [List.length_map]; omega)) ?_) | with_reducible refine J.nil ?_ | ((with_reducible apply J.skipV); rfl; rfl; rfl) | ((with_reducible apply J.skipU); rfl; rfl) | with_reducible refine CW.seq ?_ | with_reducible refine CW.block ?_ | ((with_reducible refine CW.reg ?_ ?_); rfl) | ((with_reducible refine CW.regQN ?_ ?_ ?_ ?_); rfl; kernel_rfl; rfl) | ((with_reducible refine CW.regS 1 ?_ ?_ ?_); kernel_rfl; rfl; simp only [List.length_cons, List.length_nil, Nat.reduceAdd, Nat.reduceSub, List.take_succ_cons, List.take_zero, List.drop_succ_cons, List.drop_zero]) | with_reducible refine CW.skip ?_ | with_reducible refine CW.ret ?_ | with_reducible refine CW.exit ?_ | refine CW.condT rfl ?_ | refine CW.condF rfl ?_ | (refine CW.condD rfl (fun _ => ?_) (fun _ => ?_) <;> (try (exfalso; omega))) | (refine CW.cond rfl (fun _ => ?_) (fun _ => ?_) <;> (try (exfalso; simp only [decide_eq_true_eq, decide_eq_false_iff_not, Bool.and_eq_true, Bool.or_eq_true] at *; omega))) | with_reducible refine thenQ_n ?_ | with_reducible refine blockQ_n ?_ | ((with_reducible refine blockQ_e ?_ ?_); rfl) | ((with_reducible refine blockQ_x ?_ ?_); rfl) | with_reducible refine blockQ_r ?_ | with_reducible refine thenQ_x ?_ | with_reducible refine thenQ_r ?_ | ((fail_if_success ((with_reducible apply J.step); rfl)); (fail_if_success ((with_reducible apply J.skipU); rfl)); refine J.splitG rfl rfl (fun _ => ?_) (fun _ => ?_) <;> (try (exfalso; omega))) | ((fail_if_success ((with_reducible apply J.step); rfl)); (fail_if_success ((with_reducible apply J.skipU); rfl)); refine J.splitB rfl rfl (fun _ => ?_) (fun _ => ?_))))
  exact .mk rfl rfl rfl
def gain (w : Nat → Nat → Int) (wo : Int) (i : Nat) (k : Int) : Int := if 0 ≤ k ∧ (i : Int) ≠ wo then w i k.toNat else 0
def vl (w : Nat → Nat → Int) (wo : Int) : Nat → List Int → Int
  | _, [] => 0
  | i, k :: r => gain w wo i k + vl w wo (i + 1) r
theorem vl_snoc {w : Nat → Nat → Int} {wo : Int} : ∀ (l : List Int) (i : Nat) (k : Int), vl w wo i (l ++ [k]) = vl w wo i l + gain w wo (i + l.length) k
  | [], i, k => by simp [vl]
  | x :: l, i, k => by
    simp only [List.cons_append, vl, List.length_cons]
    rw [vl_snoc l (i + 1) k, show i + 1 + l.length = i + (l.length + 1) by omega]; omega
theorem vl_take {w : Nat → Nat → Int} {wo : Int} {l : List Int} {j : Nat} (h : j < l.length) : vl w wo 0 (l.take (j + 1)) = vl w wo 0 (l.take j) + gain w wo j l[j] := by
  rw [List.take_succ_eq_append_getElem h, vl_snoc, List.length_take, Nat.zero_add, Nat.min_eq_left (by omega)]
theorem vl_bound {n g : Nat} {w : Nat → Nat → Int} (hw : GTab n g w) {wo : Int} {l : List Int} (hl : l.length = n) (hk : ∀ k ∈ l, -1 ≤ k ∧ k < g) : ∀ j, j ≤ n → 0 ≤ vl w wo 0 (l.take j) ∧ vl w wo 0 (l.take j) ≤ j * 1000000
  | 0, _ => by simp [vl]
  | j + 1, hj => by
    have ih := vl_bound hw hl hk (wo := wo) j (by omega)
    have hjl : j < l.length := by omega
    rw [vl_take hjl]
    have h1 := hk _ (List.getElem_mem hjl)
    unfold gain
    split
    · have := hw.range j l[j].toNat (by omega) (by omega)
      omega
    · omega
/-! ### the sharings, one bidder more each time -/
def opts (p : List Int) : Nat → List (List Int)
  | 0 => []
  | c + 1 => opts p c ++ if c = 0 ∨ ((c : Int) - 1) ∉ p then [p ++ [(c : Int) - 1]] else []
def shg (g : Nat) : Nat → List (List Int)
  | 0 => [[]]
  | j + 1 => (shg g j).flatMap fun p => opts p (g + 1)
theorem opts_len {p : List Int} : ∀ c, (opts p c).length ≤ c
  | 0 => by simp [opts]
  | c + 1 => by
    have := opts_len (p := p) c
    simp only [opts, List.length_append]
    split <;> simp <;> omega
theorem opts_mem {p q : List Int} : ∀ {c : Nat}, q ∈ opts p c → ∃ k : Int, q = p ++ [k] ∧ -1 ≤ k ∧ k < (c : Int) - 1
  | 0, h => by simp [opts] at h
  | c + 1, h => by
    simp only [opts, List.mem_append] at h
    rcases h with h | h
    · obtain ⟨k, h1, h2, h3⟩ := opts_mem h; exact ⟨k, h1, h2, by omega⟩
    · split at h
      · rw [List.mem_singleton] at h; exact ⟨_, h, by omega, by omega⟩
      · cases h
theorem shg_row {g : Nat} : ∀ (j : Nat), ∀ p ∈ shg g j, p.length = j ∧ ∀ k ∈ p, -1 ≤ k ∧ k < g
  | 0, p, h => by rw [shg, List.mem_singleton] at h; subst h; exact ⟨rfl, fun k hk => by cases hk⟩
  | j + 1, p, h => by
    rw [shg, List.mem_flatMap] at h
    obtain ⟨q, hq, hp⟩ := h
    obtain ⟨h1, h2⟩ := shg_row j q hq
    obtain ⟨k, rfl, h3, h4⟩ := opts_mem hp
    refine ⟨by simp [h1], fun x hx => ?_⟩
    rcases List.mem_append.1 hx with hx | hx
    · exact h2 x hx
    · rw [List.mem_singleton.1 hx]; omega
theorem flat_len {g : Nat} : ∀ L : List (List Int), (L.flatMap fun p => opts p (g + 1)).length ≤ L.length * (g + 1)
  | [] => by simp
  | p :: L => by
    have := flat_len (g := g) L
    have := opts_len (p := p) (g + 1)
    rw [List.flatMap_cons, List.length_append, List.length_cons, Nat.add_mul]; omega
theorem shg_len {g : Nat} (hg : g ≤ 4) : ∀ j, (shg g j).length ≤ 5 ^ j
  | 0 => by simp [shg]
  | j + 1 => by
    have h1 := shg_len hg j
    have h2 := flat_len (g := g) (shg g j)
    have h3 : (shg g j).length * (g + 1) ≤ 5 ^ j * 5 := Nat.mul_le_mul h1 (by omega)
    rw [Nat.pow_succ]
    exact Nat.le_trans h2 h3
theorem shg_625 {g j : Nat} (hg : g ≤ 4) (hj : j ≤ 4) : (shg g j).length ≤ 625 := Nat.le_trans (shg_len hg j) (Nat.pow_le_pow_right (n := 5) (i := j) (j := 4) (by decide) hj)
def nxt (g : Nat) (L : List (List Int)) (i : Nat) : List (List Int) := (L.take i).flatMap fun p => opts p (g + 1)
theorem nxt_succ {g : Nat} {L : List (List Int)} {i : Nat} (h : i < L.length) : nxt g L (i + 1) = nxt g L i ++ opts L[i] (g + 1) := by
  unfold nxt; rw [List.take_succ_eq_append_getElem h, List.flatMap_append]; simp
theorem nxt_len {g : Nat} (hg : g ≤ 4) {L : List (List Int)} (hL : L.length ≤ 625) {i : Nat} : (nxt g L i).length ≤ 3125 := by
  unfold nxt
  have h1 := flat_len (g := g) (L.take i)
  have h2 : (L.take i).length ≤ 625 := by rw [List.length_take]; omega
  have h3 : (L.take i).length * (g + 1) ≤ 625 * 5 := Nat.mul_le_mul h2 (by omega)
  omega
def fF (f : List Int → Int) (s : List Int × Int) (l : List Int) : List Int × Int := if s.2 < f l then (l, f l) else s
def fFold (f : List Int → Int) (L : List (List Int)) (s : List Int × Int) : List Int × Int := L.foldl (fF f) s
theorem fFold_take {f : List Int → Int} {L : List (List Int)} {s : List Int × Int} {i : Nat} (h : i < L.length) : fFold f (L.take (i + 1)) s = fF f (fFold f (L.take i) s) L[i] := by
  unfold fFold; rw [List.take_succ_eq_append_getElem h, List.foldl_append]; rfl
/-- Each choice is none or a good. -/
theorem bst_mem {n g : Nat} {w : Nat → Nat → Int} {wo : Int} (hw : GTab n g w) : ∀ (m i T : Nat), i + m ≤ n → ∀ k ∈ (bst g w wo m i T).1, -1 ≤ k ∧ k < g
  | 0, i, T, _, k, hk => by simp [bst] at hk
  | m + 1, i, T, hi, k, hk => by
    have ih := fun T => bst_mem hw (wo := wo) m (i + 1) T (by omega)
    by_cases h : (i : Int) = wo
    · rw [bst_skip h] at hk
      rcases List.mem_cons.1 hk with rfl | hk
      · omega
      · exact ih T k hk
    · rw [bst_take h] at hk
      have hS : ∀ c, c ≤ g → (∀ k ∈ (bstS g w wo m i T c).1, -1 ≤ k ∧ k < g) := fun c => by
        induction c with
        | zero => exact fun _ => ih T
        | succ c ihc =>
          intro hc
          rw [bstS_succ]
          split
          · exact ih _
          · exact ihc (by omega)
      obtain ⟨_, _, _, h4, h5⟩ := bstS_ok hw (by omega) (fun T => bst_ok hw (wo := wo) m (i + 1) T (by omega)) (T := T) g (Nat.le_refl _)
      rcases List.mem_cons.1 hk with rfl | hk
      · exact ⟨h4, h5⟩
      · exact hS g (Nat.le_refl _) k hk
def ownOf (w : Nat → Nat → Int) (i : Nat) (k : Int) : Int := if 0 ≤ k then w i k.toNat else 0
def payW (n g : Nat) (w : Nat → Nat → Int) (i : Nat) : Int := (bst g w i n 0 0).2 - ((bst g w (-1) n 0 0).2 - ownOf w i ((bst g w (-1) n 0 0).1.getD i 0))
def payG (n g : Nat) (w : Nat → Nat → Int) (x : Nat) : List Int := tb n fun i => if i < x then payW n g w i else 0
theorem payG_set {n g : Nat} {w : Nat → Nat → Int} {x : Nat} {v : Int} (hv : v = payW n g w x) : (payG n g w x).set x v = payG n g w (x + 1) := by
  subst hv
  unfold payG
  rw [tb_set]
  refine tb_congr fun a _ => ?_
  by_cases h : a = x
  · subst h; rw [if_pos rfl, if_pos (Nat.lt_succ_self _)]
  · rw [if_neg h]; have : (a < x) = (a < x + 1) := by apply propext; omega
    simp only [this]
theorem pays_spec (n g : Nat) (w : Nat → Nat → Int) (hw : GTab n g w) (hS : FnSpec Sy.P 46 [.sl false 1 ((mtx n g w).map rwS)] [.sl false 1 ((mtx n g w).map rwS)] (.tup [.sl true 1 (((bst g w (-1) n 0 0).1).map .int), .int (bst g w (-1) n 0 0).2, .int 0])) : FnSpec Sy.P 47 [.sl false 1 ((mtx n g w).map rwS)] [.sl false 1 ((mtx n g w).map rwS)] (.tup [.sl true 1 ((tb n (payW n g w)).map .int), .int 0]) := by
  have h4 := hw.n4
  have h5 := hw.g4
  obtain ⟨a1, a2, a3⟩ := bst_ok hw (wo := -1) n 0 0 (by omega)
  have am := bst_mem hw (wo := -1) n 0 0 (by omega)
  have hz : List.replicate n (0 : Int) = payG n g w 0 := by rw [tb_replicate]; exact tb_congr fun i _ => by simp
  have hfin : payG n g w n = tb n (payW n g w) := tb_congr fun i hi => by rw [if_pos hi]
  have hpw : ∀ i, payW n g w i = (bst g w i n 0 0).2 - ((bst g w (-1) n 0 0).2 - ownOf w i ((bst g w (-1) n 0 0).1.getD i 0)) := fun _ => rfl
  have hset := fun x v => @payG_set n g w x v
  have hlenG : ∀ x, (payG n g w x).length = n := fun x => tb_length
  rw [← hfin]
  refine FnSpec.enter (S := Sy) 0 Try.func47 rfl rfl rfl Try.ntmps47 rfl rfl rfl rfl fun v0 => ?_
  generalize payG n g w = G at *
  generalize payW n g w = pw at *
  generalize bst g w (-1) n 0 0 = A at *
  (repeat' (first | ((with_reducible apply J.step); rfl; exact FM.st) | ((with_reducible apply J.eff); rfl; exact FM.ef) | ((with_reducible apply J.callP (hS)); rfl; rfl; (repeat' (first | exact ArgsOk.nil | apply ArgsOk.cons | exact ArgOk.pl rfl rfl | exact ArgOk.br rfl AV.noConfusion (by first | rfl | exact sh_int | exact sh_rows | exact sh_rowsO | exact sh_box | exact sh_map (fun _ => rfl)))); (first | rfl | exact (fun h => Bool.noConfusion h) | exact (fun _ => noSh_ints) | exact (fun _ => noSh_strs) | exact (fun _ => NoSh.str) | exact (fun _ => noSh_rows) | exact (fun _ => NoSh.int) | exact (fun _ => NoSh.bool) | exact (fun _ => NoSh.nil) | exact (fun _ => noSh_tup2 (by first | exact noSh_ints | exact noSh_strs | exact NoSh.str | exact noSh_rows | exact NoSh.nil | exact NoSh.int | exact NoSh.bool) (by first | exact noSh_ints | exact noSh_strs | exact NoSh.str | exact NoSh.int | exact NoSh.bool | exact noSh_rows | exact NoSh.nil)) | exact (fun _ => noSh_tup3 (by first | exact noSh_ints | exact noSh_strs | exact NoSh.str | exact noSh_rows | exact NoSh.nil | exact NoSh.int | exact NoSh.bool) (by first | exact noSh_ints | exact noSh_strs | exact NoSh.str | exact NoSh.int | exact NoSh.bool | exact noSh_rows | exact NoSh.nil) (by first | exact noSh_ints | exact noSh_strs | exact NoSh.str | exact NoSh.int | exact NoSh.bool | exact noSh_rows | exact NoSh.nil)))) | ((with_reducible apply J.callPQ (hS)); rfl; rfl; (repeat' (first | exact ArgsOk.nil | apply ArgsOk.cons | exact ArgOk.pl rfl rfl | exact ArgOk.br rfl AV.noConfusion (by first | rfl | exact sh_int | exact sh_rows | exact sh_rowsO | exact sh_box | exact sh_map (fun _ => rfl)))); rfl) | ((with_reducible apply J.eqNil); rfl; rfl; rfl; rfl; intro bnil hbnil) | (refine J.takeRow rfl rfl AV.noConfusion rfl (by first | assumption | (simp only [List.length_map]; omega)) ?_) | with_reducible refine J.nil ?_ | ((with_reducible apply J.skipV); rfl; rfl; rfl) | ((with_reducible apply J.skipU); rfl; rfl) | with_reducible refine CW.seq ?_ | with_reducible refine CW.block ?_ | ((with_reducible refine CW.reg ?_ ?_); rfl) | ((with_reducible refine CW.regQN ?_ ?_ ?_ ?_); rfl; kernel_rfl; rfl) | ((with_reducible refine CW.regS 1 ?_ ?_ ?_); kernel_rfl; rfl; simp only [List.length_cons, List.length_nil, Nat.reduceAdd, Nat.reduceSub, List.take_succ_cons, List.take_zero, List.drop_succ_cons, List.drop_zero]) | with_reducible refine CW.skip ?_ | with_reducible refine CW.ret ?_ | with_reducible refine CW.exit ?_ | refine CW.condT rfl ?_ | refine CW.condF rfl ?_ | (refine CW.condD rfl (fun _ => ?_) (fun _ => ?_) <;> (try (exfalso; omega))) | (refine CW.cond rfl (fun _ => ?_) (fun _ => ?_) <;> (try (exfalso; simp only [decide_eq_true_eq, decide_eq_false_iff_not, Bool.and_eq_true, Bool.or_eq_true] at *; omega))) | with_reducible refine thenQ_n ?_ | with_reducible refine blockQ_n ?_ | ((with_reducible refine blockQ_e ?_ ?_); rfl) | ((with_reducible refine blockQ_x ?_ ?_); rfl) | with_reducible refine blockQ_r ?_ | with_reducible refine thenQ_x ?_ | with_reducible refine thenQ_r ?_ | ((fail_if_success ((with_reducible apply J.step); rfl)); (fail_if_success ((with_reducible apply J.skipU); rfl)); refine J.splitG rfl rfl (fun _ => ?_) (fun _ => ?_) <;> (try (exfalso; omega))) | ((fail_if_success ((with_reducible apply J.step); rfl)); (fail_if_success ((with_reducible apply J.skipU); rfl)); refine J.splitB rfl rfl (fun _ => ?_) (fun _ => ?_))))
  refine CW.loop (fun i : Nat => [(0, .av (.sl false 1 ((mtx n g w).map rwS))), (5, .av (.int (A.2))), (7, .av (.sl true 1 ((G i).map .int))), (25, .ref 4), (4, .av (.sl true 1 ((A.1).map .int))), (26, .av (.int (n))), (27, .av (.int (i)))]) (fun i => i ≤ n) (fun i => n - i) (0) ?_ (by (repeat' (first | exact trivial | rfl | refine And.intro ?_ ?_ | exact int_congr (by omega) | exact ints_congr (by first | assumption | exact Eq.symm (by assumption)) | exact int_congr (by assumption) | exact bool_congr (by first | assumption | exact Eq.symm (by assumption)) | exact map_congr' (by first | assumption | exact Eq.symm (by assumption)) | exact ints_congr (by rw [show (((A.1.length : Nat) : Int)).toNat = n by omega]; exact hz)))) ?_
  · exact Nat.zero_le _
  intro i hi
  have hGl := hlenG i
  by_cases hil : i < n
  · have hx : A.1[i]? = some (A.1[i]'(by omega)) := List.getElem?_eq_getElem (by omega)
    have hk := am _ (List.getElem_mem (by omega : i < A.1.length))
    have hB := best_spec n g w hw i n 0 0 (by omega) (Nat.two_pow_pos g)
    obtain ⟨b1, b2, b3⟩ := bst_ok hw (wo := i) n 0 0 (by omega)
    have hp := hpw i
    rw [show A.1.getD i 0 = A.1[i]'(by omega) by rw [List.getD_eq_getElem?_getD, hx]; rfl] at hp
    have hgi : ∃ v, (G i)[i]? = some v := ⟨_, List.getElem?_eq_getElem (by omega)⟩
    obtain ⟨v0, hgi⟩ := hgi
    generalize A.1[i]'(by omega) = k at *
    generalize bst g w i n 0 0 = B at *
    by_cases hc : 0 ≤ k
    · have g1 := mtx_get (m := g) (f := w) hil
      have g2 := tb_get (g := w i) (by omega : k.toNat < g)
      have hr := hw.range i k.toNat hil (by omega)
      rw [show ownOf w i k = w i k.toNat from if_pos hc] at hp
      have e := hset i (B.2 - (A.2 - w i k.toNat)) hp.symm
      (repeat' (first | ((with_reducible apply J.step); rfl; exact FM.st) | ((with_reducible apply J.eff); rfl; exact FM.ef) | ((with_reducible apply J.callP (hB)); rfl; rfl; (repeat' (first | exact ArgsOk.nil | apply ArgsOk.cons | exact ArgOk.pl rfl rfl | exact ArgOk.br rfl AV.noConfusion (by first | rfl | exact sh_int | exact sh_rows | exact sh_rowsO | exact sh_box | exact sh_map (fun _ => rfl)))); (first | rfl | exact (fun h => Bool.noConfusion h) | exact (fun _ => noSh_ints) | exact (fun _ => noSh_strs) | exact (fun _ => NoSh.str) | exact (fun _ => noSh_rows) | exact (fun _ => NoSh.int) | exact (fun _ => NoSh.bool) | exact (fun _ => NoSh.nil) | exact (fun _ => noSh_tup2 (by first | exact noSh_ints | exact noSh_strs | exact NoSh.str | exact noSh_rows | exact NoSh.nil | exact NoSh.int | exact NoSh.bool) (by first | exact noSh_ints | exact noSh_strs | exact NoSh.str | exact NoSh.int | exact NoSh.bool | exact noSh_rows | exact NoSh.nil)) | exact (fun _ => noSh_tup3 (by first | exact noSh_ints | exact noSh_strs | exact NoSh.str | exact noSh_rows | exact NoSh.nil | exact NoSh.int | exact NoSh.bool) (by first | exact noSh_ints | exact noSh_strs | exact NoSh.str | exact NoSh.int | exact NoSh.bool | exact noSh_rows | exact NoSh.nil) (by first | exact noSh_ints | exact noSh_strs | exact NoSh.str | exact NoSh.int | exact NoSh.bool | exact noSh_rows | exact NoSh.nil)))) | ((with_reducible apply J.callPQ (hB)); rfl; rfl; (repeat' (first | exact ArgsOk.nil | apply ArgsOk.cons | exact ArgOk.pl rfl rfl | exact ArgOk.br rfl AV.noConfusion (by first | rfl | exact sh_int | exact sh_rows | exact sh_rowsO | exact sh_box | exact sh_map (fun _ => rfl)))); rfl) | ((with_reducible apply J.eqNil); rfl; rfl; rfl; rfl; intro bnil hbnil) | (refine J.takeRow rfl rfl AV.noConfusion rfl (by first | assumption | (simp only [List.length_map]; omega)) ?_) | with_reducible refine J.nil ?_ | ((with_reducible apply J.skipV); rfl; rfl; rfl) | ((with_reducible apply J.skipU); rfl; rfl) | with_reducible refine CW.seq ?_ | with_reducible refine CW.block ?_ | ((with_reducible refine CW.reg ?_ ?_); rfl) | ((with_reducible refine CW.regQN ?_ ?_ ?_ ?_); rfl; kernel_rfl; rfl) | ((with_reducible refine CW.regS 1 ?_ ?_ ?_); kernel_rfl; rfl; simp only [List.length_cons, List.length_nil, Nat.reduceAdd, Nat.reduceSub, List.take_succ_cons, List.take_zero, List.drop_succ_cons, List.drop_zero]) | with_reducible refine CW.skip ?_ | with_reducible refine CW.ret ?_ | with_reducible refine CW.exit ?_ | refine CW.condT rfl ?_ | refine CW.condF rfl ?_ | (refine CW.condD rfl (fun _ => ?_) (fun _ => ?_) <;> (try (exfalso; omega))) | (refine CW.cond rfl (fun _ => ?_) (fun _ => ?_) <;> (try (exfalso; simp only [decide_eq_true_eq, decide_eq_false_iff_not, Bool.and_eq_true, Bool.or_eq_true] at *; omega))) | with_reducible refine thenQ_n ?_ | with_reducible refine blockQ_n ?_ | ((with_reducible refine blockQ_e ?_ ?_); rfl) | ((with_reducible refine blockQ_x ?_ ?_); rfl) | with_reducible refine blockQ_r ?_ | with_reducible refine thenQ_x ?_ | with_reducible refine thenQ_r ?_ | ((fail_if_success ((with_reducible apply J.step); rfl)); (fail_if_success ((with_reducible apply J.skipU); rfl)); refine J.splitG rfl rfl (fun _ => ?_) (fun _ => ?_) <;> (try (exfalso; omega))) | ((fail_if_success ((with_reducible apply J.step); rfl)); (fail_if_success ((with_reducible apply J.skipU); rfl)); refine J.splitB rfl rfl (fun _ => ?_) (fun _ => ?_))))
      refine ⟨i+1, ?_, by first | omega | (simp only; omega), by (repeat' (first | exact trivial | rfl | refine And.intro ?_ ?_ | exact int_congr (by omega) | exact ints_congr (by first | assumption | exact Eq.symm (by assumption)) | exact int_congr (by assumption) | exact bool_congr (by first | assumption | exact Eq.symm (by assumption)) | exact map_congr' (by first | assumption | exact Eq.symm (by assumption))))⟩
      omega
    · rw [show ownOf w i k = 0 from if_neg hc] at hp
      have e := hset i (B.2 - (A.2 - 0)) hp.symm
      (repeat' (first | ((with_reducible apply J.step); rfl; exact FM.st) | ((with_reducible apply J.eff); rfl; exact FM.ef) | ((with_reducible apply J.callP (hB)); rfl; rfl; (repeat' (first | exact ArgsOk.nil | apply ArgsOk.cons | exact ArgOk.pl rfl rfl | exact ArgOk.br rfl AV.noConfusion (by first | rfl | exact sh_int | exact sh_rows | exact sh_rowsO | exact sh_box | exact sh_map (fun _ => rfl)))); (first | rfl | exact (fun h => Bool.noConfusion h) | exact (fun _ => noSh_ints) | exact (fun _ => noSh_strs) | exact (fun _ => NoSh.str) | exact (fun _ => noSh_rows) | exact (fun _ => NoSh.int) | exact (fun _ => NoSh.bool) | exact (fun _ => NoSh.nil) | exact (fun _ => noSh_tup2 (by first | exact noSh_ints | exact noSh_strs | exact NoSh.str | exact noSh_rows | exact NoSh.nil | exact NoSh.int | exact NoSh.bool) (by first | exact noSh_ints | exact noSh_strs | exact NoSh.str | exact NoSh.int | exact NoSh.bool | exact noSh_rows | exact NoSh.nil)) | exact (fun _ => noSh_tup3 (by first | exact noSh_ints | exact noSh_strs | exact NoSh.str | exact noSh_rows | exact NoSh.nil | exact NoSh.int | exact NoSh.bool) (by first | exact noSh_ints | exact noSh_strs | exact NoSh.str | exact NoSh.int | exact NoSh.bool | exact noSh_rows | exact NoSh.nil) (by first | exact noSh_ints | exact noSh_strs | exact NoSh.str | exact NoSh.int | exact NoSh.bool | exact noSh_rows | exact NoSh.nil)))) | ((with_reducible apply J.callPQ (hB)); rfl; rfl; (repeat' (first | exact ArgsOk.nil | apply ArgsOk.cons | exact ArgOk.pl rfl rfl | exact ArgOk.br rfl AV.noConfusion (by first | rfl | exact sh_int | exact sh_rows | exact sh_rowsO | exact sh_box | exact sh_map (fun _ => rfl)))); rfl) | ((with_reducible apply J.eqNil); rfl; rfl; rfl; rfl; intro bnil hbnil) | (refine J.takeRow rfl rfl AV.noConfusion rfl (by first | assumption | (simp only [List.length_map]; omega)) ?_) | with_reducible refine J.nil ?_ | ((with_reducible apply J.skipV); rfl; rfl; rfl) | ((with_reducible apply J.skipU); rfl; rfl) | with_reducible refine CW.seq ?_ | with_reducible refine CW.block ?_ | ((with_reducible refine CW.reg ?_ ?_); rfl) | ((with_reducible refine CW.regQN ?_ ?_ ?_ ?_); rfl; kernel_rfl; rfl) | ((with_reducible refine CW.regS 1 ?_ ?_ ?_); kernel_rfl; rfl; simp only [List.length_cons, List.length_nil, Nat.reduceAdd, Nat.reduceSub, List.take_succ_cons, List.take_zero, List.drop_succ_cons, List.drop_zero]) | with_reducible refine CW.skip ?_ | with_reducible refine CW.ret ?_ | with_reducible refine CW.exit ?_ | refine CW.condT rfl ?_ | refine CW.condF rfl ?_ | (refine CW.condD rfl (fun _ => ?_) (fun _ => ?_) <;> (try (exfalso; omega))) | (refine CW.cond rfl (fun _ => ?_) (fun _ => ?_) <;> (try (exfalso; simp only [decide_eq_true_eq, decide_eq_false_iff_not, Bool.and_eq_true, Bool.or_eq_true] at *; omega))) | with_reducible refine thenQ_n ?_ | with_reducible refine blockQ_n ?_ | ((with_reducible refine blockQ_e ?_ ?_); rfl) | ((with_reducible refine blockQ_x ?_ ?_); rfl) | with_reducible refine blockQ_r ?_ | with_reducible refine thenQ_x ?_ | with_reducible refine thenQ_r ?_ | ((fail_if_success ((with_reducible apply J.step); rfl)); (fail_if_success ((with_reducible apply J.skipU); rfl)); refine J.splitG rfl rfl (fun _ => ?_) (fun _ => ?_) <;> (try (exfalso; omega))) | ((fail_if_success ((with_reducible apply J.step); rfl)); (fail_if_success ((with_reducible apply J.skipU); rfl)); refine J.splitB rfl rfl (fun _ => ?_) (fun _ => ?_))))
      refine ⟨i+1, ?_, by first | omega | (simp only; omega), by (repeat' (first | exact trivial | rfl | refine And.intro ?_ ?_ | exact int_congr (by omega) | exact ints_congr (by first | assumption | exact Eq.symm (by assumption)) | exact int_congr (by assumption) | exact bool_congr (by first | assumption | exact Eq.symm (by assumption)) | exact map_congr' (by first | assumption | exact Eq.symm (by assumption))))⟩
      omega
  · obtain rfl : i = n := by omega
    (repeat' (first | ((with_reducible apply J.step); rfl; exact FM.st) | ((with_reducible apply J.eff); rfl; exact FM.ef) | ((with_reducible apply J.eqNil); rfl; rfl; rfl; rfl; intro bnil hbnil) | (refine J.takeRow rfl rfl AV.noConfusion rfl (by first | assumption | (simp only [List.length_map]; omega)) ?_) | with_reducible refine J.nil ?_ | ((with_reducible apply J.skipV); rfl; rfl; rfl) | ((with_reducible apply J.skipU); rfl; rfl) | with_reducible refine CW.seq ?_ | with_reducible refine CW.block ?_ | ((with_reducible refine CW.reg ?_ ?_); rfl) | ((with_reducible refine CW.regQN ?_ ?_ ?_ ?_); rfl; kernel_rfl; rfl) | ((with_reducible refine CW.regS 1 ?_ ?_ ?_); kernel_rfl; rfl; simp only [List.length_cons, List.length_nil, Nat.reduceAdd, Nat.reduceSub, List.take_succ_cons, List.take_zero, List.drop_succ_cons, List.drop_zero]) | with_reducible refine CW.skip ?_ | with_reducible refine CW.ret ?_ | with_reducible refine CW.exit ?_ | refine CW.condT rfl ?_ | refine CW.condF rfl ?_ | (refine CW.condD rfl (fun _ => ?_) (fun _ => ?_) <;> (try (exfalso; omega))) | (refine CW.cond rfl (fun _ => ?_) (fun _ => ?_) <;> (try (exfalso; simp only [decide_eq_true_eq, decide_eq_false_iff_not, Bool.and_eq_true, Bool.or_eq_true] at *; omega))) | with_reducible refine thenQ_n ?_ | with_reducible refine blockQ_n ?_ | ((with_reducible refine blockQ_e ?_ ?_); rfl) | ((with_reducible refine blockQ_x ?_ ?_); rfl) | with_reducible refine blockQ_r ?_ | with_reducible refine thenQ_x ?_ | with_reducible refine thenQ_r ?_ | ((fail_if_success ((with_reducible apply J.step); rfl)); (fail_if_success ((with_reducible apply J.skipU); rfl)); refine J.splitG rfl rfl (fun _ => ?_) (fun _ => ?_) <;> (try (exfalso; omega))) | ((fail_if_success ((with_reducible apply J.step); rfl)); (fail_if_success ((with_reducible apply J.skipU); rfl)); refine J.splitB rfl rfl (fun _ => ?_) (fun _ => ?_))))
    exact .mk rfl rfl rfl
def addT (T : Nat) (k : Int) : Nat := if k < 0 then T else T ||| 2 ^ k.toNat
def optK (g T : Nat) : List Int := -1 :: ((List.range g).filter fun k => !T.testBit k).map fun (k : Nat) => (k : Int)
def en (g : Nat) : Nat → Nat → List (List Int)
  | 0, _ => [[]]
  | m + 1, T => (optK g T).flatMap fun k => (en g m (addT T k)).map (k :: ·)
/-- The first of the best of a list. -/
structure Sm (f : List Int → Int) (L : List (List Int)) (s : List Int × Int) : Prop where
  le : ∀ x ∈ L, f x ≤ s.2
  fold : ∀ st, fFold f L st = if st.2 < s.2 then s else st
theorem fFold_append {f : List Int → Int} {A B : List (List Int)} {s : List Int × Int} : fFold f (A ++ B) s = fFold f B (fFold f A s) := List.foldl_append ..
theorem Sm.append {f : List Int → Int} {A B : List (List Int)} {a b : List Int × Int} (ha : Sm f A a) (hb : Sm f B b) : Sm f (A ++ B) (if a.2 < b.2 then b else a) := by
  refine ⟨fun x hx => ?_, fun st => ?_⟩
  · rcases List.mem_append.1 hx with h | h
    · have := ha.le x h; split <;> omega
    · have := hb.le x h; split <;> omega
  · rw [fFold_append, ha.fold, hb.fold]
    by_cases h1 : a.2 < b.2
    · rw [if_pos h1]
      by_cases h2 : st.2 < a.2
      · rw [if_pos h2, if_pos h1, if_pos (by omega)]
      · rw [if_neg h2]
    · rw [if_neg h1]
      by_cases h2 : st.2 < a.2
      · rw [if_pos h2, if_neg h1]
      · rw [if_neg h2, if_neg (by omega)]
theorem Sm.map {f f' : List Int → Int} {k : Int} {c : Int} (hf : ∀ r, f (k :: r) = c + f' r) {L : List (List Int)} {s : List Int × Int} (h : Sm f' L s) (hm : ∃ x ∈ L, s = (x, f' x)) : Sm f (L.map (k :: ·)) (k :: s.1, c + s.2) := by
  refine ⟨fun x hx => ?_, fun st => ?_⟩
  · obtain ⟨r, hr, rfl⟩ := List.mem_map.1 hx
    have := h.le r hr
    rw [hf]; simp only; omega
  · have key : ∀ (L : List (List Int)) (b : List Int × Int), ∀ st : List Int × Int, fFold f' L b = (if b.2 < s.2 then s else b) → True := fun _ _ _ _ => trivial
    -- the fold over the lengthened ones, next to that over the short ones
    have sim : ∀ (L : List (List Int)) (M : Int), (fFold f (L.map (k :: ·)) (st.1, c + M) = (st.1, c + M) ∧ (fFold f' L ([], M)).2 = M) ∨ (∃ x ∈ L, fFold f (L.map (k :: ·)) (st.1, c + M) = (k :: x, c + f' x) ∧ fFold f' L ([], M) = (x, f' x) ∧ M < f' x) := by
      intro L
      induction L with
      | nil => exact fun M => .inl ⟨rfl, rfl⟩
      | cons y L ih =>
        intro M
        have step : ∀ a : List Int, fFold f ((y :: L).map (k :: ·)) (a, c + M) = fFold f (L.map (k :: ·)) (if M < f' y then (k :: y, c + f' y) else (a, c + M)) := fun a => by
          simp only [fFold, List.map_cons, List.foldl_cons, fF, hf]
          congr 1
          by_cases h : M < f' y
          · rw [if_pos h, if_pos (by omega)]
          · rw [if_neg h, if_neg (by omega)]
        have step' : ∀ a : List Int, fFold f' (y :: L) (a, M) = fFold f' L (if M < f' y then (y, f' y) else (a, M)) := fun a => by
          simp only [fFold, List.foldl_cons, fF]
        rw [step, step']
        by_cases h : M < f' y
        · rw [if_pos h, if_pos h]
          -- from a start of whatever row
          have any : ∀ (L : List (List Int)) (a b a' b' : List Int) (N : Int), (fFold f (L.map (k :: ·)) (a, c + N) = (a, c + N) ∧ fFold f' L (b, N) = (b, N)) ∨ (∃ x ∈ L, fFold f (L.map (k :: ·)) (a, c + N) = (k :: x, c + f' x) ∧ fFold f' L (b, N) = (x, f' x) ∧ N < f' x) := by
            intro L
            induction L with
            | nil => exact fun a b _ _ N => .inl ⟨rfl, rfl⟩
            | cons z L ihL =>
              intro a b a' b' N
              have e1 : fFold f ((z :: L).map (k :: ·)) (a, c + N) = fFold f (L.map (k :: ·)) (if N < f' z then (k :: z, c + f' z) else (a, c + N)) := by
                simp only [fFold, List.map_cons, List.foldl_cons, fF, hf]
                congr 1
                by_cases h : N < f' z
                · rw [if_pos h, if_pos (by omega)]
                · rw [if_neg h, if_neg (by omega)]
              have e2 : fFold f' (z :: L) (b, N) = fFold f' L (if N < f' z then (z, f' z) else (b, N)) := by
                simp only [fFold, List.foldl_cons, fF]
              rw [e1, e2]
              by_cases h : N < f' z
              · rw [if_pos h, if_pos h]
                rcases ihL (k :: z) z a' b' (f' z) with ⟨h1, h2⟩ | ⟨x, hx, h1, h2, h3⟩
                · exact .inr ⟨z, List.mem_cons_self .., h1, h2, h⟩
                · exact .inr ⟨x, List.mem_cons_of_mem _ hx, h1, h2, by omega⟩
              · rw [if_neg h, if_neg h]
                rcases ihL a b a' b' N with ⟨h1, h2⟩ | ⟨x, hx, h1, h2, h3⟩
                · exact .inl ⟨h1, h2⟩
                · exact .inr ⟨x, List.mem_cons_of_mem _ hx, h1, h2, h3⟩
          rcases any L (k :: y) y [] [] (f' y) with ⟨h1, h2⟩ | ⟨x, hx, h1, h2, h3⟩
          · exact .inr ⟨y, List.mem_cons_self .., h1, h2, h⟩
          · exact .inr ⟨x, List.mem_cons_of_mem _ hx, h1, h2, by omega⟩
        · rw [if_neg h, if_neg h]
          rcases ih M with ⟨h1, h2⟩ | ⟨x, hx, h1, h2, h3⟩
          · exact .inl ⟨h1, h2⟩
          · exact .inr ⟨x, List.mem_cons_of_mem _ hx, h1, h2, h3⟩
    have h1 := sim L (st.2 - c)
    have h2 := h.fold ([], st.2 - c)
    have e : c + (st.2 - c) = st.2 := by omega
    rw [e] at h1
    have est : (st.1, st.2) = st := rfl
    rw [est] at h1
    rcases h1 with ⟨h3, h4⟩ | ⟨x, hx, h3, h4, h5⟩
    · rw [h3]
      rw [h2] at h4
      by_cases hc : st.2 - c < s.2
      · rw [if_pos hc] at h4; omega
      · rw [if_neg (by simp only; omega)]
    · rw [h3]
      rw [h2] at h4
      by_cases hc : st.2 - c < s.2
      · rw [if_pos hc] at h4
        subst h4
        rw [if_pos (by simp only at hc ⊢; omega)]
      · rw [if_neg hc] at h4
        injection h4 with _ h4
        omega
theorem fFold_mem {f : List Int → Int} : ∀ {L : List (List Int)} {st : List Int × Int}, fFold f L st = st ∨ ∃ x ∈ L, fFold f L st = (x, f x)
  | [], st => .inl rfl
  | y :: L, st => by
    have e : fFold f (y :: L) st = fFold f L (fF f st y) := rfl
    rw [e]
    unfold fF
    by_cases h : st.2 < f y
    · rw [if_pos h]
      rcases fFold_mem (f := f) (L := L) (st := (y, f y)) with h | ⟨x, hx, h⟩
      · exact .inr ⟨y, List.mem_cons_self .., h⟩
      · exact .inr ⟨x, List.mem_cons_of_mem _ hx, h⟩
    · rw [if_neg h]
      rcases fFold_mem (f := f) (L := L) (st := st) with h | ⟨x, hx, h⟩
      · exact .inl h
      · exact .inr ⟨x, List.mem_cons_of_mem _ hx, h⟩
theorem Sm.mem {f : List Int → Int} {L : List (List Int)} {s : List Int × Int} (h : Sm f L s) : ∃ x ∈ L, s = (x, f x) := by
  have h1 := h.fold ([], s.2 - 1)
  rw [if_pos (by simp only; omega)] at h1
  rcases fFold_mem (f := f) (L := L) (st := ([], s.2 - 1)) with h2 | ⟨x, hx, h2⟩
  · rw [h2] at h1
    have := congrArg Prod.snd h1
    simp only at this; omega
  · exact ⟨x, hx, by rw [← h1, h2]⟩
theorem addT_bit {T k : Nat} {x : Int} (hx : -1 ≤ x) : (addT T x).testBit k = (T.testBit k || decide ((k : Int) = x)) := by
  unfold addT
  by_cases h : x < 0
  · rw [if_pos h, decide_eq_false (by omega), Bool.or_false]
  · rw [if_neg h, Nat.testBit_or, Nat.testBit_two_pow]
    congr 1
    rw [Bool.eq_iff_iff, decide_eq_true_iff, decide_eq_true_iff]
    omega
theorem optK_mem {g T : Nat} {k : Int} : k ∈ optK g T ↔ k = -1 ∨ ∃ c : Nat, c < g ∧ T.testBit c = false ∧ k = c := by
  unfold optK
  rw [List.mem_cons, List.mem_map]
  constructor
  · rintro (h | ⟨c, hc, h⟩)
    · exact .inl h
    · obtain ⟨h1, h2⟩ := List.mem_filter.1 hc
      exact .inr ⟨c, List.mem_range.1 h1, by simpa using h2, h.symm⟩
  · rintro (h | ⟨c, h1, h2, h3⟩)
    · exact .inl h
    · exact .inr ⟨c, List.mem_filter.2 ⟨List.mem_range.2 h1, by simpa using h2⟩, h3.symm⟩
theorem en_sub {g : Nat} : ∀ (m T T' : Nat), (∀ b, T.testBit b = true → T'.testBit b = true) → ∀ x ∈ en g m T', x ∈ en g m T
  | 0, _, _, _, x, hx => hx
  | m + 1, T, T', h, x, hx => by
    unfold en at hx ⊢
    obtain ⟨k, hk, hx⟩ := List.mem_flatMap.1 hx
    obtain ⟨r, hr, rfl⟩ := List.mem_map.1 hx
    have hk1 : -1 ≤ k := by rcases optK_mem.1 hk with h | ⟨c, _, _, h⟩ <;> omega
    refine List.mem_flatMap.2 ⟨k, optK_mem.2 ?_, List.mem_map.2 ⟨r, en_sub m _ _ (fun b hb => ?_) r hr, rfl⟩⟩
    · rcases optK_mem.1 hk with h' | ⟨c, h1, h2, h3⟩
      · exact .inl h'
      · refine .inr ⟨c, h1, ?_, h3⟩
        cases hT : T.testBit c with
        | false => rfl
        | true => rw [h c hT] at h2; cases h2
    · rw [addT_bit hk1] at hb ⊢
      rcases Bool.or_eq_true .. |>.mp hb with hb | hb
      · rw [h b hb]; rfl
      · rw [hb, Bool.or_true]
theorem range_filter_succ {c : Nat} {p : Nat → Bool} : (List.range (c + 1)).filter p = (List.range c).filter p ++ if p c = true then [c] else [] := by
  rw [List.range_succ, List.filter_append]; congr 1
  by_cases h : p c = true
  · rw [if_pos h]; simp [h]
  · rw [if_neg h]; simp [h]
def tailK (g m T c : Nat) : List (List Int) := (((List.range c).filter fun k => !T.testBit k).map fun (k : Nat) => (k : Int)).flatMap fun k => (en g m (addT T k)).map (k :: ·)
theorem tailK_yes {g m T c : Nat} (h : T.testBit c = false) : tailK g m T (c + 1) = tailK g m T c ++ (en g m (T ||| 2 ^ c)).map ((c : Int) :: ·) := by
  unfold tailK
  rw [range_filter_succ, if_pos (by simpa using h), List.map_append, List.flatMap_append]
  congr 1
  have : ¬ ((c : Int) < 0) := by omega
  simp [addT, this]
theorem tailK_no {g m T c : Nat} (h : T.testBit c = true) : tailK g m T (c + 1) = tailK g m T c := by
  unfold tailK
  rw [range_filter_succ, if_neg (by simpa using h), List.append_nil]
theorem shr_testBitG (a k : Nat) : shr a k % 2 = 0 ↔ a.testBit k = false := by
  unfold shr; rw [Nat.testBit_eq_decide_div_mod_eq]; simp
theorem bst_Sm {g : Nat} {w : Nat → Nat → Int} {wo : Int} : ∀ (m i T : Nat), Sm (vl w wo i) (en g m T) (bst g w wo m i T)
  | 0, i, T => ⟨fun x hx => by rw [en, List.mem_singleton] at hx; subst hx; simp [vl, bst], fun st => rfl⟩
  | m + 1, i, T => by
    have ih := fun T => bst_Sm (g := g) (w := w) (wo := wo) m (i + 1) T
    have hen : en g (m + 1) T = (en g m T).map (-1 :: ·) ++ tailK g m T g := by
      show (optK g T).flatMap (fun k => (en g m (addT T k)).map (k :: ·)) = _
      unfold optK tailK
      rw [List.flatMap_cons, show addT T (-1) = T from if_pos (by omega)]
    have hcons : ∀ k r, vl w wo i (k :: r) = gain w wo i k + vl w wo (i + 1) r := fun k r => rfl
    have g1 : gain w wo i (-1) = 0 := if_neg (by omega)
    have h0 : Sm (vl w wo i) ((en g m T).map (-1 :: ·)) (-1 :: (bst g w wo m (i + 1) T).1, (bst g w wo m (i + 1) T).2) := by
      have := (ih T).map (f := vl w wo i) (hcons (-1)) (ih T).mem
      rwa [g1, Int.zero_add] at this
    rw [hen]
    by_cases hi : (i : Int) = wo
    · rw [bst_skip hi]
      have : ∀ c, Sm (vl w wo i) ((en g m T).map (-1 :: ·) ++ tailK g m T c) (-1 :: (bst g w wo m (i + 1) T).1, (bst g w wo m (i + 1) T).2) := fun c => by
        induction c with
        | zero => rw [show tailK g m T 0 = [] from rfl, List.append_nil]; exact h0
        | succ c ihc =>
          cases hb : T.testBit c with
          | true => rw [tailK_no hb]; exact ihc
          | false =>
            rw [tailK_yes hb, ← List.append_assoc]
            have h1 := (ih (T ||| 2 ^ c)).map (f := vl w wo i) (hcons (c : Int)) (ih _).mem
            have g2 : gain w wo i (c : Int) = 0 := if_neg (fun h => h.2 hi)
            rw [g2, Int.zero_add] at h1
            have h2 := ihc.append h1
            obtain ⟨x, hx, hxe⟩ := (ih (T ||| 2 ^ c)).mem
            have h3 := (ih T).le x (en_sub m T (T ||| 2 ^ c) (fun b hb => by rw [Nat.testBit_or, hb]; rfl) x hx)
            rw [if_neg (by rw [hxe]; simp only; omega)] at h2
            exact h2
      exact this g
    · rw [bst_take hi]
      have : ∀ c, Sm (vl w wo i) ((en g m T).map (-1 :: ·) ++ tailK g m T c) ((bstS g w wo m i T c).2.2 :: (bstS g w wo m i T c).1, (bstS g w wo m i T c).2.1) := fun c => by
        induction c with
        | zero => rw [show tailK g m T 0 = [] from rfl, List.append_nil]; exact h0
        | succ c ihc =>
          rw [bstS_succ]
          cases hb : T.testBit c with
          | true =>
            rw [tailK_no hb, if_neg (fun h => by rw [(shr_testBitG T c).1 h.1] at hb; cases hb)]; exact ihc
          | false =>
            rw [tailK_yes hb, ← List.append_assoc]
            have h1 := (ih (T ||| 2 ^ c)).map (f := vl w wo i) (hcons (c : Int)) (ih _).mem
            have g2 : gain w wo i (c : Int) = w i c := by unfold gain; rw [if_pos ⟨by omega, hi⟩, Int.toNat_natCast]
            rw [g2] at h1
            have h2 := ihc.append h1
            by_cases hc : (bstS g w wo m i T c).2.1 < w i c + (bst g w wo m (i + 1) (T ||| 2 ^ c)).2
            · rw [if_pos ⟨(shr_testBitG T c).2 hb, hc⟩]
              rw [if_pos hc] at h2
              exact h2
            · rw [if_neg (fun h => hc h.2)]
              rw [if_neg hc] at h2
              exact h2
      exact this g
/-! ### the sharings are these -/
def bitsOf (p : List Int) : Nat := p.foldl addT 0
theorem bitsOf_bit {p : List Int} (h : ∀ k ∈ p, -1 ≤ k) {c : Nat} : (bitsOf p).testBit c = decide ((c : Int) ∈ p) := by
  unfold bitsOf
  suffices ∀ (p : List Int) (T : Nat), (∀ k ∈ p, -1 ≤ k) → (p.foldl addT T).testBit c = (T.testBit c || decide ((c : Int) ∈ p)) by
    rw [this p 0 h]; simp
  intro p
  induction p with
  | nil => intro T _; simp
  | cons x p ih =>
    intro T hp
    rw [List.foldl_cons, ih _ (fun k hk => hp k (List.mem_cons_of_mem _ hk)), addT_bit (hp x (List.mem_cons_self ..)), Bool.or_assoc]
    congr 1
    rw [Bool.eq_iff_iff]
    simp [List.mem_cons]
theorem opts_eq {g : Nat} {p : List Int} (h : ∀ k ∈ p, -1 ≤ k) : opts p (g + 1) = (optK g (bitsOf p)).map fun k => p ++ [k] := by
  unfold optK
  rw [List.map_cons]
  induction g with
  | zero => rfl
  | succ g ih =>
    rw [show opts p (g + 1 + 1) = opts p (g + 1) ++ if g + 1 = 0 ∨ (((g + 1 : Nat) : Int) - 1) ∉ p then [p ++ [((g + 1 : Nat) : Int) - 1]] else [] from rfl, ih, range_filter_succ]
    have e : ((g + 1 : Nat) : Int) - 1 = (g : Int) := by omega
    rw [e, bitsOf_bit h]
    by_cases hm : (g : Int) ∈ p
    · rw [if_neg (by simp [hm]), if_neg (by simp [hm])]; simp
    · rw [if_pos (.inr hm), if_pos (by simp [hm])]; simp
theorem shg_en {g : Nat} : ∀ (j m : Nat), ((shg g j).flatMap fun p => (en g m (bitsOf p)).map (p ++ ·)) = en g (j + m) 0
  | 0, m => by simp [shg, bitsOf]
  | j + 1, m => by
    have ih := shg_en (g := g) j (m + 1)
    rw [show j + (m + 1) = j + 1 + m by omega] at ih
    rw [← ih, shg, List.flatMap_assoc]
    have hrow := shg_row (g := g) j
    have key : ∀ L : List (List Int), (∀ p ∈ L, ∀ k ∈ p, -1 ≤ k) → (L.flatMap fun p => (opts p (g + 1)).flatMap fun q => (en g m (bitsOf q)).map (q ++ ·)) = L.flatMap fun p => (en g (m + 1) (bitsOf p)).map (p ++ ·) := fun L => by
      induction L with
      | nil => intro _; rfl
      | cons p L ihL =>
        intro hL
        rw [List.flatMap_cons, List.flatMap_cons, ihL fun q hq => hL q (List.mem_cons_of_mem _ hq)]
        congr 1
        rw [opts_eq (hL p (List.mem_cons_self ..)), List.flatMap_map, en, List.map_flatMap]
        congr 1
        funext k
        rw [List.map_map]
        have : bitsOf (p ++ [k]) = addT (bitsOf p) k := by simp [bitsOf]
        rw [this]
        refine List.map_congr_left fun r _ => ?_
        simp
    exact key _ fun p hp k hk => ((hrow p hp).2 k hk).1
theorem shg_all {g n : Nat} : shg g n = en g n 0 := by
  have := shg_en (g := g) n 0
  rw [Nat.add_zero] at this
  rw [← this]
  simp [en]
theorem best_eq {g n : Nat} {w : Nat → Nat → Int} {wo : Int} (h : 0 ≤ (bst g w wo n 0 0).2) : fFold (vl w wo 0) (shg g n) ([], -1) = bst g w wo n 0 0 := by
  rw [shg_all, (bst_Sm n 0 0).fold, if_pos (by simp only; omega)]
theorem vl_without {w : Nat → Nat → Int} {l : List Int} : ∀ (o i : Nat), i < l.length → vl w (-1) o l = vl w ((o + i : Nat) : Int) o l + ownOf w (o + i) (l.getD i 0) := by
  induction l with
  | nil => intro o i h; simp at h
  | cons x l ih =>
    intro o i h
    have same : ∀ (l : List Int) (a b : Nat), b < a → vl w (b : Int) a l = vl w (-1) a l := fun l => by
      induction l with
      | nil => intro a b _; rfl
      | cons y l ihl =>
        intro a b hab
        simp only [vl]
        rw [ihl (a + 1) b (by omega)]
        congr 1
        unfold gain
        by_cases hy : 0 ≤ y
        · rw [if_pos ⟨hy, by omega⟩, if_pos ⟨hy, by omega⟩]
        · rw [if_neg (fun h => hy h.1), if_neg (fun h => hy h.1)]
    cases i with
    | zero =>
      simp only [vl, Nat.add_zero, List.getD_cons_zero]
      rw [same l (o + 1) o (by omega)]
      unfold gain ownOf
      by_cases hx : 0 ≤ x
      · rw [if_pos ⟨hx, by omega⟩, if_neg (fun h => h.2 rfl), if_pos hx]; omega
      · rw [if_neg (fun h => hx h.1), if_neg (fun h => h.2 rfl), if_neg hx]; omega
    | succ i =>
      have := ih (o + 1) i (by simpa using h)
      simp only [vl, List.getD_cons_succ]
      rw [this, show o + 1 + i = o + (i + 1) by omega]
      have : gain w (-1) o x = gain w ((o + (i + 1) : Nat) : Int) o x := by
        unfold gain
        by_cases hx : 0 ≤ x
        · rw [if_pos ⟨hx, by omega⟩, if_pos ⟨hx, by omega⟩]
        · rw [if_neg (fun h => hx h.1), if_neg (fun h => hx h.1)]
      omega
end Go.Proofs.Ytohgcgedbhlnfaa.G
