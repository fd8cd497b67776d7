/- The least and the greatest of a row. -/
import Derived.Test.YtohgcgedbhlnfaaCl
namespace Go.Proofs.Ytohgcgedbhlnfaa
open Go FM
set_option maxRecDepth 10000
set_option maxHeartbeats 1600000
set_option linter.all false
def lmax (d : Int) (l : List Int) : Int := l.foldl max d
def lmin (d : Int) (l : List Int) : Int := l.foldl min d
theorem lmax_cons (d x : Int) (l : List Int) : lmax d (x :: l) = lmax (max d x) l := rfl
theorem lmin_cons (d x : Int) (l : List Int) : lmin d (x :: l) = lmin (min d x) l := rfl
theorem lmax_append (d x : Int) (l : List Int) : lmax d (l ++ [x]) = max (lmax d l) x := by unfold lmax; rw [List.foldl_append]; rfl
theorem lmin_append (d x : Int) (l : List Int) : lmin d (l ++ [x]) = min (lmin d l) x := by unfold lmin; rw [List.foldl_append]; rfl
theorem lmax_take {d : Int} {l : List Int} {k : Nat} (h : k < l.length) : lmax d (l.take (k + 1)) = max (lmax d (l.take k)) l[k] := by
  rw [List.take_succ_eq_append_getElem h, lmax_append]
theorem lmin_take {d : Int} {l : List Int} {k : Nat} (h : k < l.length) : lmin d (l.take (k + 1)) = min (lmin d (l.take k)) l[k] := by
  rw [List.take_succ_eq_append_getElem h, lmin_append]
theorem lmax_spec : ∀ (l : List Int) (d : Int), d ≤ lmax d l ∧ (∀ y ∈ l, y ≤ lmax d l) ∧ (lmax d l = d ∨ lmax d l ∈ l)
  | [], d => ⟨Int.le_refl _, fun y hy => (by cases hy), .inl rfl⟩
  | x :: l, d => by
    obtain ⟨h1, h2, h3⟩ := lmax_spec l (max d x)
    rw [lmax_cons]
    refine ⟨by omega, fun y hy => ?_, ?_⟩
    · rcases List.mem_cons.1 hy with rfl | hy
      · omega
      · exact h2 y hy
    · rcases h3 with h3 | h3
      · by_cases c : d ≤ x
        · right; rw [h3, show max d x = x by omega]; exact List.mem_cons_self ..
        · left; omega
      · right; exact List.mem_cons_of_mem _ h3
theorem lmin_spec : ∀ (l : List Int) (d : Int), lmin d l ≤ d ∧ (∀ y ∈ l, lmin d l ≤ y) ∧ (lmin d l = d ∨ lmin d l ∈ l)
  | [], d => ⟨Int.le_refl _, fun y hy => (by cases hy), .inl rfl⟩
  | x :: l, d => by
    obtain ⟨h1, h2, h3⟩ := lmin_spec l (min d x)
    rw [lmin_cons]
    refine ⟨by omega, fun y hy => ?_, ?_⟩
    · rcases List.mem_cons.1 hy with rfl | hy
      · omega
      · exact h2 y hy
    · rcases h3 with h3 | h3
      · by_cases c : x ≤ d
        · right; rw [h3, show min d x = x by omega]; exact List.mem_cons_self ..
        · left; omega
      · right; exact List.mem_cons_of_mem _ h3
/-- The greatest of a row that isn't empty. -/
def gmax (l : List Int) : Int := lmax (l.getD 0 0) l
def gmin (l : List Int) : Int := lmin (l.getD 0 0) l
theorem getD0_mem {l : List Int} (h : l ≠ []) : l.getD 0 0 ∈ l := by
  cases l with
  | nil => exact absurd rfl h
  | cons x l => exact List.mem_cons_self ..
theorem gmax_spec {l : List Int} (h : l ≠ []) : gmax l ∈ l ∧ ∀ y ∈ l, y ≤ gmax l := by
  obtain ⟨h1, h2, h3⟩ := lmax_spec l (l.getD 0 0)
  refine ⟨?_, h2⟩
  rcases h3 with h3 | h3
  · unfold gmax; rw [h3]; exact getD0_mem h
  · exact h3
theorem gmin_spec {l : List Int} (h : l ≠ []) : gmin l ∈ l ∧ ∀ y ∈ l, gmin l ≤ y := by
  obtain ⟨h1, h2, h3⟩ := lmin_spec l (l.getD 0 0)
  refine ⟨?_, h2⟩
  rcases h3 with h3 | h3
  · unfold gmin; rw [h3]; exact getD0_mem h
  · exact h3
theorem lmax_gmax {l : List Int} {d : Int} (h : l ≠ []) (hd : ∀ y ∈ l, d ≤ y) : lmax d l = gmax l := by
  obtain ⟨h1, h2, h3⟩ := lmax_spec l d
  obtain ⟨g1, g2⟩ := gmax_spec h
  have a := h2 _ g1
  have b := hd _ g1
  rcases h3 with h3 | h3
  · omega
  · have := g2 _ h3; omega
theorem lmin_gmin {l : List Int} {d : Int} (h : l ≠ []) (hd : ∀ y ∈ l, y ≤ d) : lmin d l = gmin l := by
  obtain ⟨h1, h2, h3⟩ := lmin_spec l d
  obtain ⟨g1, g2⟩ := gmin_spec h
  have a := h2 _ g1
  have b := hd _ g1
  rcases h3 with h3 | h3
  · omega
  · have := g2 _ h3; omega
theorem eq_gmax {l : List Int} {x : Int} (hx : x ∈ l) : x = gmax l ↔ ∀ y ∈ l, y ≤ x := by
  obtain ⟨g1, g2⟩ := gmax_spec (List.ne_nil_of_mem hx)
  constructor
  · intro e; rw [e]; exact g2
  · intro e; have := e _ g1; have := g2 _ hx; omega
theorem eq_gmin {l : List Int} {x : Int} (hx : x ∈ l) : x = gmin l ↔ ∀ y ∈ l, x ≤ y := by
  obtain ⟨g1, g2⟩ := gmin_spec (List.ne_nil_of_mem hx)
  constructor
  · intro e; rw [e]; exact g2
  · intro e; have := e _ g1; have := g2 _ hx; omega
theorem Max_spec (l : List Int) (h1 : 1 ≤ l.length) (hl : l.length ≤ 9223372036854775806) : FnSpec Sy.P 61 [.sl false 1 ((l).map .int)] [.sl false 1 ((l).map .int)] (.int (gmax l)) := by
  have h0 : l[0]? = some (l.getD 0 0) := by rw [List.getD_eq_getElem?_getD, List.getElem?_eq_getElem (by omega)]; rfl
  unfold gmax
  have ht : lmax (l.getD 0 0) (l.take 1) = l.getD 0 0 := by
    rw [lmax_take (by omega)]
    have : l[0]'(by omega) = l.getD 0 0 := by rw [List.getElem?_eq_getElem (by omega)] at h0; exact Option.some.inj h0
    rw [this]; simp [lmax]
  generalize l.getD 0 0 = x0 at *
  refine FnSpec.enter (S := Sy) 0 Try.func61 rfl rfl rfl Try.ntmps61 rfl rfl rfl rfl fun v0 => ?_
  (repeat' (first | ((with_reducible apply J.step); rfl; exact FM.st) | ((with_reducible apply J.eff); rfl; exact FM.ef) | ((with_reducible apply J.eqNil); rfl; rfl; rfl; rfl; intro bnil hbnil) | (refine J.takeRow rfl rfl AV.noConfusion rfl (by first | assumption | (simp only [List.length_map]; omega)) ?_) | with_reducible refine J.nil ?_ | ((with_reducible apply J.skipV); rfl; rfl; rfl) | ((with_reducible apply J.skipU); rfl; rfl) | with_reducible refine CW.seq ?_ | with_reducible refine CW.block ?_ | ((with_reducible refine CW.reg ?_ ?_); rfl) | ((with_reducible refine CW.regQN ?_ ?_ ?_ ?_); rfl; kernel_rfl; rfl) | ((with_reducible refine CW.regS 1 ?_ ?_ ?_); kernel_rfl; rfl; simp only [List.length_cons, List.length_nil, Nat.reduceAdd, Nat.reduceSub, List.take_succ_cons, List.take_zero, List.drop_succ_cons, List.drop_zero]) | with_reducible refine CW.skip ?_ | with_reducible refine CW.ret ?_ | with_reducible refine CW.exit ?_ | refine CW.condT rfl ?_ | refine CW.condF rfl ?_ | (refine CW.condD rfl (fun _ => ?_) (fun _ => ?_) <;> (try (exfalso; omega))) | (refine CW.cond rfl (fun _ => ?_) (fun _ => ?_) <;> (try (exfalso; simp only [decide_eq_true_eq, decide_eq_false_iff_not, Bool.and_eq_true, Bool.or_eq_true] at *; omega))) | with_reducible refine thenQ_n ?_ | with_reducible refine blockQ_n ?_ | ((with_reducible refine blockQ_e ?_ ?_); rfl) | ((with_reducible refine blockQ_x ?_ ?_); rfl) | with_reducible refine blockQ_r ?_ | with_reducible refine thenQ_x ?_ | with_reducible refine thenQ_r ?_ | ((fail_if_success ((with_reducible apply J.step); rfl)); (fail_if_success ((with_reducible apply J.skipU); rfl)); refine J.splitG rfl rfl (fun _ => ?_) (fun _ => ?_) <;> (try (exfalso; omega))) | ((fail_if_success ((with_reducible apply J.step); rfl)); (fail_if_success ((with_reducible apply J.skipU); rfl)); refine J.splitB rfl rfl (fun _ => ?_) (fun _ => ?_))))
  refine CW.loop (fun k : Nat => [(0, .av (.sl false 1 ((l).map .int))), (3, .av (.int (lmax x0 (l.take k)))), (4, .av (.int (k)))]) (fun k => 1 ≤ k ∧ k ≤ l.length) (fun k => l.length - k) (1) ?_ (by (repeat' (first | exact trivial | rfl | refine And.intro ?_ ?_ | exact int_congr (by omega) | exact ints_congr (by first | assumption | exact Eq.symm (by assumption)) | exact int_congr (by assumption) | exact bool_congr (by first | assumption | exact Eq.symm (by assumption)) | exact map_congr' (by first | assumption | exact Eq.symm (by assumption)) | exact int_congr ht.symm))) ?_
  · exact ⟨Nat.le_refl _, h1⟩
  intro k ⟨hk1, hk⟩
  by_cases hlt : k < l.length
  · have hx : l[k]? = some l[k] := List.getElem?_eq_getElem hlt
    have hm := lmax_take (d := x0) hlt
    generalize l[k] = x at *
    (repeat' (first | ((with_reducible apply J.step); rfl; exact FM.st) | ((with_reducible apply J.eff); rfl; exact FM.ef) | ((with_reducible apply J.eqNil); rfl; rfl; rfl; rfl; intro bnil hbnil) | (refine J.takeRow rfl rfl AV.noConfusion rfl (by first | assumption | (simp only [List.length_map]; omega)) ?_) | with_reducible refine J.nil ?_ | ((with_reducible apply J.skipV); rfl; rfl; rfl) | ((with_reducible apply J.skipU); rfl; rfl) | with_reducible refine CW.seq ?_ | with_reducible refine CW.block ?_ | ((with_reducible refine CW.reg ?_ ?_); rfl) | ((with_reducible refine CW.regQN ?_ ?_ ?_ ?_); rfl; kernel_rfl; rfl) | ((with_reducible refine CW.regS 1 ?_ ?_ ?_); kernel_rfl; rfl; simp only [List.length_cons, List.length_nil, Nat.reduceAdd, Nat.reduceSub, List.take_succ_cons, List.take_zero, List.drop_succ_cons, List.drop_zero]) | with_reducible refine CW.skip ?_ | with_reducible refine CW.ret ?_ | with_reducible refine CW.exit ?_ | refine CW.condT rfl ?_ | refine CW.condF rfl ?_ | (refine CW.condD rfl (fun _ => ?_) (fun _ => ?_) <;> (try (exfalso; omega))) | (refine CW.cond rfl (fun _ => ?_) (fun _ => ?_) <;> (try (exfalso; simp only [decide_eq_true_eq, decide_eq_false_iff_not, Bool.and_eq_true, Bool.or_eq_true] at *; omega))) | with_reducible refine thenQ_n ?_ | with_reducible refine blockQ_n ?_ | ((with_reducible refine blockQ_e ?_ ?_); rfl) | ((with_reducible refine blockQ_x ?_ ?_); rfl) | with_reducible refine blockQ_r ?_ | with_reducible refine thenQ_x ?_ | with_reducible refine thenQ_r ?_ | ((fail_if_success ((with_reducible apply J.step); rfl)); (fail_if_success ((with_reducible apply J.skipU); rfl)); refine J.splitG rfl rfl (fun _ => ?_) (fun _ => ?_) <;> (try (exfalso; omega))) | ((fail_if_success ((with_reducible apply J.step); rfl)); (fail_if_success ((with_reducible apply J.skipU); rfl)); refine J.splitB rfl rfl (fun _ => ?_) (fun _ => ?_))))
    refine ⟨k+1, ?_, by first | omega | (simp only; omega), by (repeat' (first | exact trivial | rfl | refine And.intro ?_ ?_ | exact int_congr (by omega) | exact ints_congr (by first | assumption | exact Eq.symm (by assumption)) | exact int_congr (by assumption) | exact bool_congr (by first | assumption | exact Eq.symm (by assumption)) | exact map_congr' (by first | assumption | exact Eq.symm (by assumption))))⟩
    omega
  · obtain rfl : k = l.length := by omega
    rw [List.take_length]
    (repeat' (first | ((with_reducible apply J.step); rfl; exact FM.st) | ((with_reducible apply J.eff); rfl; exact FM.ef) | ((with_reducible apply J.eqNil); rfl; rfl; rfl; rfl; intro bnil hbnil) | (refine J.takeRow rfl rfl AV.noConfusion rfl (by first | assumption | (simp only [List.length_map]; omega)) ?_) | with_reducible refine J.nil ?_ | ((with_reducible apply J.skipV); rfl; rfl; rfl) | ((with_reducible apply J.skipU); rfl; rfl) | with_reducible refine CW.seq ?_ | with_reducible refine CW.block ?_ | ((with_reducible refine CW.reg ?_ ?_); rfl) | ((with_reducible refine CW.regQN ?_ ?_ ?_ ?_); rfl; kernel_rfl; rfl) | ((with_reducible refine CW.regS 1 ?_ ?_ ?_); kernel_rfl; rfl; simp only [List.length_cons, List.length_nil, Nat.reduceAdd, Nat.reduceSub, List.take_succ_cons, List.take_zero, List.drop_succ_cons, List.drop_zero]) | with_reducible refine CW.skip ?_ | with_reducible refine CW.ret ?_ | with_reducible refine CW.exit ?_ | refine CW.condT rfl ?_ | refine CW.condF rfl ?_ | (refine CW.condD rfl (fun _ => ?_) (fun _ => ?_) <;> (try (exfalso; omega))) | (refine CW.cond rfl (fun _ => ?_) (fun _ => ?_) <;> (try (exfalso; simp only [decide_eq_true_eq, decide_eq_false_iff_not, Bool.and_eq_true, Bool.or_eq_true] at *; omega))) | with_reducible refine thenQ_n ?_ | with_reducible refine blockQ_n ?_ | ((with_reducible refine blockQ_e ?_ ?_); rfl) | ((with_reducible refine blockQ_x ?_ ?_); rfl) | with_reducible refine blockQ_r ?_ | with_reducible refine thenQ_x ?_ | with_reducible refine thenQ_r ?_ | ((fail_if_success ((with_reducible apply J.step); rfl)); (fail_if_success ((with_reducible apply J.skipU); rfl)); refine J.splitG rfl rfl (fun _ => ?_) (fun _ => ?_) <;> (try (exfalso; omega))) | ((fail_if_success ((with_reducible apply J.step); rfl)); (fail_if_success ((with_reducible apply J.skipU); rfl)); refine J.splitB rfl rfl (fun _ => ?_) (fun _ => ?_))))
    exact .mk rfl rfl rfl
theorem Min_spec (l : List Int) (h1 : 1 ≤ l.length) (hl : l.length ≤ 9223372036854775806) : FnSpec Sy.P 109 [.sl false 1 ((l).map .int)] [.sl false 1 ((l).map .int)] (.int (gmin l)) := by
  have h0 : l[0]? = some (l.getD 0 0) := by rw [List.getD_eq_getElem?_getD, List.getElem?_eq_getElem (by omega)]; rfl
  unfold gmin
  have ht : lmin (l.getD 0 0) (l.take 1) = l.getD 0 0 := by
    rw [lmin_take (by omega)]
    have : l[0]'(by omega) = l.getD 0 0 := by rw [List.getElem?_eq_getElem (by omega)] at h0; exact Option.some.inj h0
    rw [this]; simp [lmin]
  generalize l.getD 0 0 = x0 at *
  refine FnSpec.enter (S := Sy) 0 Try.func109 rfl rfl rfl Try.ntmps109 rfl rfl rfl rfl fun v0 => ?_
  (repeat' (first | ((with_reducible apply J.step); rfl; exact FM.st) | ((with_reducible apply J.eff); rfl; exact FM.ef) | ((with_reducible apply J.eqNil); rfl; rfl; rfl; rfl; intro bnil hbnil) | (refine J.takeRow rfl rfl AV.noConfusion rfl (by first | assumption | (simp only [List.length_map]; omega)) ?_) | with_reducible refine J.nil ?_ | ((with_reducible apply J.skipV); rfl; rfl; rfl) | ((with_reducible apply J.skipU); rfl; rfl) | with_reducible refine CW.seq ?_ | with_reducible refine CW.block ?_ | ((with_reducible refine CW.reg ?_ ?_); rfl) | ((with_reducible refine CW.regQN ?_ ?_ ?_ ?_); rfl; kernel_rfl; rfl) | ((with_reducible refine CW.regS 1 ?_ ?_ ?_); kernel_rfl; rfl; simp only [List.length_cons, List.length_nil, Nat.reduceAdd, Nat.reduceSub, List.take_succ_cons, List.take_zero, List.drop_succ_cons, List.drop_zero]) | with_reducible refine CW.skip ?_ | with_reducible refine CW.ret ?_ | with_reducible refine CW.exit ?_ | refine CW.condT rfl ?_ | refine CW.condF rfl ?_ | (refine CW.condD rfl (fun _ => ?_) (fun _ => ?_) <;> (try (exfalso; omega))) | (refine CW.cond rfl (fun _ => ?_) (fun _ => ?_) <;> (try (exfalso; simp only [decide_eq_true_eq, decide_eq_false_iff_not, Bool.and_eq_true, Bool.or_eq_true] at *; omega))) | with_reducible refine thenQ_n ?_ | with_reducible refine blockQ_n ?_ | ((with_reducible refine blockQ_e ?_ ?_); rfl) | ((with_reducible refine blockQ_x ?_ ?_); rfl) | with_reducible refine blockQ_r ?_ | with_reducible refine thenQ_x ?_ | with_reducible refine thenQ_r ?_ | ((fail_if_success ((with_reducible apply J.step); rfl)); (fail_if_success ((with_reducible apply J.skipU); rfl)); refine J.splitG rfl rfl (fun _ => ?_) (fun _ => ?_) <;> (try (exfalso; omega))) | ((fail_if_success ((with_reducible apply J.step); rfl)); (fail_if_success ((with_reducible apply J.skipU); rfl)); refine J.splitB rfl rfl (fun _ => ?_) (fun _ => ?_))))
  refine CW.loop (fun k : Nat => [(0, .av (.sl false 1 ((l).map .int))), (3, .av (.int (lmin x0 (l.take k)))), (4, .av (.int (k)))]) (fun k => 1 ≤ k ∧ k ≤ l.length) (fun k => l.length - k) (1) ?_ (by (repeat' (first | exact trivial | rfl | refine And.intro ?_ ?_ | exact int_congr (by omega) | exact ints_congr (by first | assumption | exact Eq.symm (by assumption)) | exact int_congr (by assumption) | exact bool_congr (by first | assumption | exact Eq.symm (by assumption)) | exact map_congr' (by first | assumption | exact Eq.symm (by assumption)) | exact int_congr ht.symm))) ?_
  · exact ⟨Nat.le_refl _, h1⟩
  intro k ⟨hk1, hk⟩
  by_cases hlt : k < l.length
  · have hx : l[k]? = some l[k] := List.getElem?_eq_getElem hlt
    have hm := lmin_take (d := x0) hlt
    generalize l[k] = x at *
    (repeat' (first | ((with_reducible apply J.step); rfl; exact FM.st) | ((with_reducible apply J.eff); rfl; exact FM.ef) | ((with_reducible apply J.eqNil); rfl; rfl; rfl; rfl; intro bnil hbnil) | (refine J.takeRow rfl rfl AV.noConfusion rfl (by first | assumption | (simp only [List.length_map]; omega)) ?_) | with_reducible refine J.nil ?_ | ((with_reducible apply J.skipV); rfl; rfl; rfl) | ((with_reducible apply J.skipU); rfl; rfl) | with_reducible refine CW.seq ?_ | with_reducible refine CW.block ?_ | ((with_reducible refine CW.reg ?_ ?_); rfl) | ((with_reducible refine CW.regQN ?_ ?_ ?_ ?_); rfl; kernel_rfl; rfl) | ((with_reducible refine CW.regS 1 ?_ ?_ ?_); kernel_rfl; rfl; simp only [List.length_cons, List.length_nil, Nat.reduceAdd, Nat.reduceSub, List.take_succ_cons, List.take_zero, List.drop_succ_cons, List.drop_zero]) | with_reducible refine CW.skip ?_ | with_reducible refine CW.ret ?_ | with_reducible refine CW.exit ?_ | refine CW.condT rfl ?_ | refine CW.condF rfl ?_ | (refine CW.condD rfl (fun _ => ?_) (fun _ => ?_) <;> (try (exfalso; omega))) | (refine CW.cond rfl (fun _ => ?_) (fun _ => ?_) <;> (try (exfalso; simp only [decide_eq_true_eq, decide_eq_false_iff_not, Bool.and_eq_true, Bool.or_eq_true] at *; omega))) | with_reducible refine thenQ_n ?_ | with_reducible refine blockQ_n ?_ | ((with_reducible refine blockQ_e ?_ ?_); rfl) | ((with_reducible refine blockQ_x ?_ ?_); rfl) | with_reducible refine blockQ_r ?_ | with_reducible refine thenQ_x ?_ | with_reducible refine thenQ_r ?_ | ((fail_if_success ((with_reducible apply J.step); rfl)); (fail_if_success ((with_reducible apply J.skipU); rfl)); refine J.splitG rfl rfl (fun _ => ?_) (fun _ => ?_) <;> (try (exfalso; omega))) | ((fail_if_success ((with_reducible apply J.step); rfl)); (fail_if_success ((with_reducible apply J.skipU); rfl)); refine J.splitB rfl rfl (fun _ => ?_) (fun _ => ?_))))
    refine ⟨k+1, ?_, by first | omega | (simp only; omega), by (repeat' (first | exact trivial | rfl | refine And.intro ?_ ?_ | exact int_congr (by omega) | exact ints_congr (by first | assumption | exact Eq.symm (by assumption)) | exact int_congr (by assumption) | exact bool_congr (by first | assumption | exact Eq.symm (by assumption)) | exact map_congr' (by first | assumption | exact Eq.symm (by assumption))))⟩
    omega
  · obtain rfl : k = l.length := by omega
    rw [List.take_length]
    (repeat' (first | ((with_reducible apply J.step); rfl; exact FM.st) | ((with_reducible apply J.eff); rfl; exact FM.ef) | ((with_reducible apply J.eqNil); rfl; rfl; rfl; rfl; intro bnil hbnil) | (refine J.takeRow rfl rfl AV.noConfusion rfl (by first | assumption | (simp only [List.length_map]; omega)) ?_) | with_reducible refine J.nil ?_ | ((with_reducible apply J.skipV); rfl; rfl; rfl) | ((with_reducible apply J.skipU); rfl; rfl) | with_reducible refine CW.seq ?_ | with_reducible refine CW.block ?_ | ((with_reducible refine CW.reg ?_ ?_); rfl) | ((with_reducible refine CW.regQN ?_ ?_ ?_ ?_); rfl; kernel_rfl; rfl) | ((with_reducible refine CW.regS 1 ?_ ?_ ?_); kernel_rfl; rfl; simp only [List.length_cons, List.length_nil, Nat.reduceAdd, Nat.reduceSub, List.take_succ_cons, List.take_zero, List.drop_succ_cons, List.drop_zero]) | with_reducible refine CW.skip ?_ | with_reducible refine CW.ret ?_ | with_reducible refine CW.exit ?_ | refine CW.condT rfl ?_ | refine CW.condF rfl ?_ | (refine CW.condD rfl (fun _ => ?_) (fun _ => ?_) <;> (try (exfalso; omega))) | (refine CW.cond rfl (fun _ => ?_) (fun _ => ?_) <;> (try (exfalso; simp only [decide_eq_true_eq, decide_eq_false_iff_not, Bool.and_eq_true, Bool.or_eq_true] at *; omega))) | with_reducible refine thenQ_n ?_ | with_reducible refine blockQ_n ?_ | ((with_reducible refine blockQ_e ?_ ?_); rfl) | ((with_reducible refine blockQ_x ?_ ?_); rfl) | with_reducible refine blockQ_r ?_ | with_reducible refine thenQ_x ?_ | with_reducible refine thenQ_r ?_ | ((fail_if_success ((with_reducible apply J.step); rfl)); (fail_if_success ((with_reducible apply J.skipU); rfl)); refine J.splitG rfl rfl (fun _ => ?_) (fun _ => ?_) <;> (try (exfalso; omega))) | ((fail_if_success ((with_reducible apply J.step); rfl)); (fail_if_success ((with_reducible apply J.skipU); rfl)); refine J.splitB rfl rfl (fun _ => ?_) (fun _ => ?_))))
    exact .mk rfl rfl rfl
end Go.Proofs.Ytohgcgedbhlnfaa
