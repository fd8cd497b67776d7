/- plumekeep.BidsOf, and what the law's table is. -/
import Derived.Test.YtohgcgedbhlnfaaTq
import Derived.Test.YtohgcgedbhlnfaaUl
import Derived.Test.YtohgcgedbhlnfaaKo
namespace Go.Proofs.Ytohgcgedbhlnfaa
open Go FM
set_option maxRecDepth 10000
set_option maxHeartbeats 3200000
set_option linter.all false
def bd (l : List Int) : List Int := l.map (· % 101)
theorem bd_take {l : List Int} {k : Nat} (h : k < l.length) : bd (l.take (k + 1)) = bd (l.take k) ++ [l[k] % 101] := by
  unfold bd; rw [List.take_succ_eq_append_getElem h, List.map_append]; rfl
theorem bidsOf_all (l : List Int) (hl : l.length ≤ 9223372036854775807) : FnSpec Sy.P 43 [.sl false 1 ((l).map .int)] [.sl false 1 ((l).map .int)] (.sl true 1 ((bd (l.take (min (l.length : Int) 10).toNat)).map .int)) := by
  refine FnSpec.enter (S := Sy) 0 Try.func43 rfl rfl rfl Try.ntmps43 rfl rfl rfl rfl fun v0 => ?_
  (repeat' (first | ((with_reducible apply J.step); rfl; exact FM.st) | ((with_reducible apply J.eff); rfl; exact FM.ef) | ((with_reducible apply J.eqNil); rfl; rfl; rfl; rfl; intro bnil hbnil) | (refine J.takeRow rfl rfl AV.noConfusion rfl (by first | assumption | (simp only [List.length_map]; omega)) ?_) | with_reducible refine J.nil ?_ | ((with_reducible apply J.skipV); rfl; rfl; rfl) | ((with_reducible apply J.skipU); rfl; rfl) | with_reducible refine CW.seq ?_ | with_reducible refine CW.block ?_ | ((with_reducible refine CW.reg ?_ ?_); rfl) | ((with_reducible refine CW.regQN ?_ ?_ ?_ ?_); rfl; kernel_rfl; rfl) | ((with_reducible refine CW.regS 1 ?_ ?_ ?_); kernel_rfl; rfl; simp only [List.length_cons, List.length_nil, Nat.reduceAdd, Nat.reduceSub, List.take_succ_cons, List.take_zero, List.drop_succ_cons, List.drop_zero]) | with_reducible refine CW.skip ?_ | with_reducible refine CW.ret ?_ | with_reducible refine CW.exit ?_ | refine CW.condT rfl ?_ | refine CW.condF rfl ?_ | (refine CW.condD rfl (fun _ => ?_) (fun _ => ?_) <;> (try (exfalso; omega))) | (refine CW.cond rfl (fun _ => ?_) (fun _ => ?_) <;> (try (exfalso; simp only [decide_eq_true_eq, decide_eq_false_iff_not, Bool.and_eq_true, Bool.or_eq_true] at *; omega))) | with_reducible refine thenQ_n ?_ | with_reducible refine blockQ_n ?_ | ((with_reducible refine blockQ_e ?_ ?_); rfl) | ((with_reducible refine blockQ_x ?_ ?_); rfl) | with_reducible refine blockQ_r ?_ | with_reducible refine thenQ_x ?_ | with_reducible refine thenQ_r ?_ | ((fail_if_success ((with_reducible apply J.step); rfl)); (fail_if_success ((with_reducible apply J.skipU); rfl)); refine J.splitG rfl rfl (fun _ => ?_) (fun _ => ?_) <;> (try (exfalso; omega))) | ((fail_if_success ((with_reducible apply J.step); rfl)); (fail_if_success ((with_reducible apply J.skipU); rfl)); refine J.splitB rfl rfl (fun _ => ?_) (fun _ => ?_))))
  all_goals first | (exfalso; omega) | skip
  refine CW.own 3 1 rfl ?_
  refine CW.loop (fun k : Nat => [(0, .av (.sl false 1 ((l).map .int))), (3, .av (.sl true 1 ((bd ((l.take (min (l.length : Int) 10).toNat).take k)).map .int))), (10, .av (.sl false 1 ((l.take (min (l.length : Int) 10).toNat).map .int))), (11, .av (.int ((l.take (min (l.length : Int) 10).toNat).length))), (12, .av (.int (k)))]) (fun k => k ≤ (l.take (min (l.length : Int) 10).toNat).length) (fun k => (l.take (min (l.length : Int) 10).toNat).length - k) (0) ?_ (by (repeat' (first | exact trivial | rfl | refine And.intro ?_ ?_ | exact int_congr (by omega) | exact ints_congr (by first | assumption | exact Eq.symm (by assumption)) | exact int_congr (by assumption) | exact bool_congr (by first | assumption | exact Eq.symm (by assumption)) | exact map_congr' (by first | assumption | exact Eq.symm (by assumption))))) ?_
  · exact Nat.zero_le _
  intro k hk
  have ht : (l.take (min (l.length : Int) 10).toNat).length ≤ 10 := by rw [List.length_take]; omega
  generalize l.take (min (l.length : Int) 10).toNat = L at *
  by_cases hkl : k < L.length
  · have hx : L[k]? = some L[k] := List.getElem?_eq_getElem hkl
    have hw := W.within_spec L[k] 101 (by decide)
    have hs := bd_take hkl
    have hn : (bd (L.take k)).length ≤ 10 := by unfold bd; rw [List.length_map, List.length_take]; omega
    generalize bd (L.take k) = B at *
    generalize L[k] = x at *
    (repeat' (first | ((with_reducible apply J.step); rfl; exact FM.st) | ((with_reducible apply J.eff); rfl; exact FM.ef) | ((with_reducible apply J.callP (hw)); rfl; rfl; (repeat' (first | exact ArgsOk.nil | apply ArgsOk.cons | exact ArgOk.pl rfl rfl | exact ArgOk.br rfl AV.noConfusion (by first | rfl | exact sh_int | exact sh_rows | exact sh_rowsO | exact sh_box | exact sh_map (fun _ => rfl)))); (first | rfl | exact (fun h => Bool.noConfusion h) | exact (fun _ => noSh_ints) | exact (fun _ => noSh_strs) | exact (fun _ => NoSh.str) | exact (fun _ => noSh_rows) | exact (fun _ => NoSh.int) | exact (fun _ => NoSh.bool) | exact (fun _ => NoSh.nil) | exact (fun _ => noSh_tup2 (by first | exact noSh_ints | exact noSh_strs | exact NoSh.str | exact noSh_rows | exact NoSh.nil | exact NoSh.int | exact NoSh.bool) (by first | exact noSh_ints | exact noSh_strs | exact NoSh.str | exact NoSh.int | exact NoSh.bool | exact noSh_rows | exact NoSh.nil)) | exact (fun _ => noSh_tup3 (by first | exact noSh_ints | exact noSh_strs | exact NoSh.str | exact noSh_rows | exact NoSh.nil | exact NoSh.int | exact NoSh.bool) (by first | exact noSh_ints | exact noSh_strs | exact NoSh.str | exact NoSh.int | exact NoSh.bool | exact noSh_rows | exact NoSh.nil) (by first | exact noSh_ints | exact noSh_strs | exact NoSh.str | exact NoSh.int | exact NoSh.bool | exact noSh_rows | exact NoSh.nil)))) | ((with_reducible apply J.callPQ (hw)); rfl; rfl; (repeat' (first | exact ArgsOk.nil | apply ArgsOk.cons | exact ArgOk.pl rfl rfl | exact ArgOk.br rfl AV.noConfusion (by first | rfl | exact sh_int | exact sh_rows | exact sh_rowsO | exact sh_box | exact sh_map (fun _ => rfl)))); rfl) | ((with_reducible apply J.eqNil); rfl; rfl; rfl; rfl; intro bnil hbnil) | (refine J.takeRow rfl rfl AV.noConfusion rfl (by first | assumption | (simp only [List.length_map]; omega)) ?_) | with_reducible refine J.nil ?_ | ((with_reducible apply J.skipV); rfl; rfl; rfl) | ((with_reducible apply J.skipU); rfl; rfl) | with_reducible refine CW.seq ?_ | with_reducible refine CW.block ?_ | ((with_reducible refine CW.reg ?_ ?_); rfl) | ((with_reducible refine CW.regQN ?_ ?_ ?_ ?_); rfl; kernel_rfl; rfl) | ((with_reducible refine CW.regS 1 ?_ ?_ ?_); kernel_rfl; rfl; simp only [List.length_cons, List.length_nil, Nat.reduceAdd, Nat.reduceSub, List.take_succ_cons, List.take_zero, List.drop_succ_cons, List.drop_zero]) | with_reducible refine CW.skip ?_ | with_reducible refine CW.ret ?_ | with_reducible refine CW.exit ?_ | refine CW.condT rfl ?_ | refine CW.condF rfl ?_ | (refine CW.condD rfl (fun _ => ?_) (fun _ => ?_) <;> (try (exfalso; omega))) | (refine CW.cond rfl (fun _ => ?_) (fun _ => ?_) <;> (try (exfalso; simp only [decide_eq_true_eq, decide_eq_false_iff_not, Bool.and_eq_true, Bool.or_eq_true] at *; omega))) | with_reducible refine thenQ_n ?_ | with_reducible refine blockQ_n ?_ | ((with_reducible refine blockQ_e ?_ ?_); rfl) | ((with_reducible refine blockQ_x ?_ ?_); rfl) | with_reducible refine blockQ_r ?_ | with_reducible refine thenQ_x ?_ | with_reducible refine thenQ_r ?_ | ((fail_if_success ((with_reducible apply J.step); rfl)); (fail_if_success ((with_reducible apply J.skipU); rfl)); refine J.splitG rfl rfl (fun _ => ?_) (fun _ => ?_) <;> (try (exfalso; omega))) | ((fail_if_success ((with_reducible apply J.step); rfl)); (fail_if_success ((with_reducible apply J.skipU); rfl)); refine J.splitB rfl rfl (fun _ => ?_) (fun _ => ?_))))
    all_goals first | (exfalso; omega) | skip
    refine ⟨k+1, ?_, by first | omega | (simp only; omega), by (repeat' (first | exact trivial | rfl | refine And.intro ?_ ?_ | exact int_congr (by omega) | exact ints_congr (by first | assumption | exact Eq.symm (by assumption)) | exact int_congr (by assumption) | exact bool_congr (by first | assumption | exact Eq.symm (by assumption)) | exact map_congr' (by first | assumption | exact Eq.symm (by assumption)) | exact ints_congr hs.symm))⟩
    omega
  · obtain rfl : k = L.length := by omega
    rw [List.take_length]
    (repeat' (first | ((with_reducible apply J.step); rfl; exact FM.st) | ((with_reducible apply J.eff); rfl; exact FM.ef) | ((with_reducible apply J.eqNil); rfl; rfl; rfl; rfl; intro bnil hbnil) | (refine J.takeRow rfl rfl AV.noConfusion rfl (by first | assumption | (simp only [List.length_map]; omega)) ?_) | with_reducible refine J.nil ?_ | ((with_reducible apply J.skipV); rfl; rfl; rfl) | ((with_reducible apply J.skipU); rfl; rfl) | with_reducible refine CW.seq ?_ | with_reducible refine CW.block ?_ | ((with_reducible refine CW.reg ?_ ?_); rfl) | ((with_reducible refine CW.regQN ?_ ?_ ?_ ?_); rfl; kernel_rfl; rfl) | ((with_reducible refine CW.regS 1 ?_ ?_ ?_); kernel_rfl; rfl; simp only [List.length_cons, List.length_nil, Nat.reduceAdd, Nat.reduceSub, List.take_succ_cons, List.take_zero, List.drop_succ_cons, List.drop_zero]) | with_reducible refine CW.skip ?_ | with_reducible refine CW.ret ?_ | with_reducible refine CW.exit ?_ | refine CW.condT rfl ?_ | refine CW.condF rfl ?_ | (refine CW.condD rfl (fun _ => ?_) (fun _ => ?_) <;> (try (exfalso; omega))) | (refine CW.cond rfl (fun _ => ?_) (fun _ => ?_) <;> (try (exfalso; simp only [decide_eq_true_eq, decide_eq_false_iff_not, Bool.and_eq_true, Bool.or_eq_true] at *; omega))) | with_reducible refine thenQ_n ?_ | with_reducible refine blockQ_n ?_ | ((with_reducible refine blockQ_e ?_ ?_); rfl) | ((with_reducible refine blockQ_x ?_ ?_); rfl) | with_reducible refine blockQ_r ?_ | with_reducible refine thenQ_x ?_ | with_reducible refine thenQ_r ?_ | ((fail_if_success ((with_reducible apply J.step); rfl)); (fail_if_success ((with_reducible apply J.skipU); rfl)); refine J.splitG rfl rfl (fun _ => ?_) (fun _ => ?_) <;> (try (exfalso; omega))) | ((fail_if_success ((with_reducible apply J.step); rfl)); (fail_if_success ((with_reducible apply J.skipU); rfl)); refine J.splitB rfl rfl (fun _ => ?_) (fun _ => ?_))))
    all_goals first | (exfalso; omega) | exact .mk rfl rfl rfl
theorem bidsOf_spec (l : List Int) (hl : l.length ≤ 9223372036854775807) : ∃ B : List Int, B.length ≤ 10 ∧ (∀ x ∈ B, 0 ≤ x ∧ x ≤ 100) ∧ FnSpec Sy.P 43 [.sl false 1 ((l).map .int)] [.sl false 1 ((l).map .int)] (.sl true 1 ((B).map .int)) := by
  have hb : ∀ L : List Int, ∀ x ∈ bd L, 0 ≤ x ∧ x ≤ 100 := fun L x hx => by
    unfold bd at hx
    obtain ⟨y, _, rfl⟩ := List.mem_map.1 hx
    omega
  exact ⟨_, by unfold bd; rw [List.length_map, List.length_take]; omega, hb _, bidsOf_all l hl⟩
/-- The rows that the law lays: each bidder's bid, for each of the goods. -/
def rowsB (g : Nat) (b : List Int) : List (List Int) := b.map fun x => List.replicate g x
theorem rowsB_mtx (g : Nat) (b : List Int) : rowsB g b = mtx b.length g fun i _ => at0 b i := by
  unfold rowsB mtx tb
  apply List.ext_getElem
  · simp
  · intro i h1 h2
    have hi : i < b.length := by simpa using h1
    simp only [List.getElem_map, List.getElem_range]
    apply List.ext_getElem
    · simp
    · intro j h3 h4
      simp [at0, hi]
theorem gRows_right {g : Nat} : ∀ {M : List (List Int)}, (∀ r ∈ M, r.length = g ∧ r.length ≤ 4 ∧ r.any G.badM = false) → G.gRows g M = 0
  | [], _ => rfl
  | q :: M, h => by
    obtain ⟨h1, h2, h3⟩ := h q (List.mem_cons_self ..)
    unfold G.gRows
    rw [if_neg (by simpa using h1), if_neg (by omega), if_neg (by simp [h3])]
    exact gRows_right fun r hr => h r (List.mem_cons_of_mem _ hr)
theorem goodE_rowsB {g : Nat} {b : List Int} (hg : g ≤ 4) (hb : b.length ≤ 4) (h : ∀ x ∈ b, 0 ≤ x ∧ x ≤ 100) : G.goodE (rowsB g b) = 0 := by
  have hr : ∀ r ∈ rowsB g b, r.length = g ∧ r.length ≤ 4 ∧ r.any G.badM = false := fun r hr => by
    unfold rowsB at hr
    obtain ⟨x, hx, rfl⟩ := List.mem_map.1 hr
    have := h x hx
    refine ⟨by simp, by simpa using hg, List.any_eq_false.2 fun y hy => ?_⟩
    rw [List.eq_of_mem_replicate hy]
    unfold G.badM
    simp only [decide_eq_true_eq]
    omega
  unfold G.goodE
  rw [if_neg (by unfold rowsB; simpa using hb)]
  match b, h, hb with
  | [], _, _ => rfl
  | x :: b, h, hb =>
    have e : ((rowsB g (x :: b)).getD 0 []).length = g := by simp [rowsB]
    rw [e]
    exact gRows_right hr
/-- What the two packages answer. -/
theorem sale_rows (b : List Int) (g : Nat) (hg : 1 ≤ g ∧ g ≤ 4) (hb : b.length ≤ 4) (h : ∀ x ∈ b, 0 ≤ x ∧ x ≤ 100) : ∃ (s : List Int) (m : Int) (pp : List Int), s.length = b.length ∧ pp.length = b.length ∧ hvV (at0 b) (-1) 0 (has s) = m ∧
    (∀ i, (hi : i < s.length) → (0 ≤ s[i] → pp.getD i 0 = prS b g) ∧ (s[i] < 0 → pp.getD i 0 = 0 ∧ at0 b i ≤ prS b g)) ∧
    FnSpec Sy.P 46 [.sl false 1 ((rowsB g b).map rwS)] [.sl false 1 ((rowsB g b).map rwS)] (.tup [.sl true 1 ((s).map .int), .int m, .int 0]) ∧ FnSpec Sy.P 47 [.sl false 1 ((rowsB g b).map rwS)] [.sl false 1 ((rowsB g b).map rwS)] (.tup [.sl true 1 ((pp).map .int), .int 0]) := by
  have h0 : ∀ i, 0 ≤ at0 b i := fun i => by
    unfold at0
    rw [List.getD_eq_getElem?_getD]
    by_cases hi : i < b.length
    · rw [List.getElem?_eq_getElem hi]; exact (h _ (List.getElem_mem hi)).1
    · rw [List.getElem?_eq_none (by omega)]; exact Int.le_refl _
  have hle : ∀ r ∈ rowsB g b, r.length ≤ 9223372036854775807 := fun r hr => by
    unfold rowsB at hr
    obtain ⟨x, hx, rfl⟩ := List.mem_map.1 hr
    simp; omega
  have hC := G.grovesCheck_spec (rowsB g b) (by unfold rowsB; rw [List.length_map]; omega) hle
  rw [goodE_rowsB hg.2 hb h] at hC
  by_cases hn : b.length = 0
  · obtain rfl : b = [] := List.eq_nil_of_length_eq_zero hn
    have hw : G.GTab 0 0 fun i _ => at0 [] i := ⟨by omega, by omega, fun _ => rfl, fun a b ha => by omega⟩
    have e : rowsB g [] = mtx 0 0 fun i _ => at0 [] i := rfl
    rw [e] at hC ⊢
    have hS := G.share_spec 0 0 _ hw hC
    have hP := G.pays_spec 0 0 _ hw hS
    exact ⟨_, _, _, rfl, rfl, rfl, fun i hi => absurd hi (by simp [G.bst]), hS, hP⟩
  · have hw : G.GTab b.length g fun i _ => at0 b i := ⟨hb, hg.2, fun h => by omega, fun i k hi hk => by
      have := h0 i
      have h2 : at0 b i ≤ 100 := by
        unfold at0
        rw [List.getD_eq_getElem?_getD, List.getElem?_eq_getElem hi]; exact (h _ (List.getElem_mem hi)).2
      omega⟩
    rw [rowsB_mtx] at hC ⊢
    have hS := G.share_spec b.length g _ hw hC
    have hP := G.pays_spec b.length g _ hw hS
    obtain ⟨l1, l2, l3⟩ := sale_law b g h0 _ _ rfl
    refine ⟨_, _, _, l1, tb_length, l2, fun i hi => ?_, hS, hP⟩
    have e : (tb b.length (G.payW b.length g fun i _ => at0 b i)).getD i 0 = G.payW b.length g (fun i _ => at0 b i) i := by
      rw [List.getD_eq_getElem?_getD, tb_get (by omega)]; rfl
    rw [e]
    exact l3 i hi
end Go.Proofs.Ytohgcgedbhlnfaa
