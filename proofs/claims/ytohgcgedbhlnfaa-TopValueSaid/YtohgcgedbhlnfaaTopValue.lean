/- 'plumetop.TopValue' returns true. -/
import Derived.Test.YtohgcgedbhlnfaaTv
import Derived.Test.YtohgcgedbhlnfaaMv
import Derived.Test.YtohgcgedbhlnfaaSq
import Derived.Test.YtohgcgedbhlnfaaKw
import Derived.Test.YtohgcgedbhlnfaaEr
namespace Go.Proofs.Ytohgcgedbhlnfaa
open Go FM
set_option maxRecDepth 10000
set_option maxHeartbeats 3200000
set_option linter.all false
theorem stood35v : Sy.P.stoodInHeld 35 = false := by kernel_rfl
theorem guard35v : Sy.P.eqGuardType Sy.P.depth 35 = false := by kernel_rfl
theorem solveErrV_spec (M : List (List Int)) (he : payE M ≠ 0) (hC : FnSpec Sy.P 51 [.sl false 1 ((M).map rwS)] [.sl false 1 ((M).map rwS)] (.int (payE M))) :
    FnSpec Sy.P 17 [.sl false 1 ((M).map rwS)] [.sl false 1 ((M).map rwS)] (.tup [.agg [.int 0, .int 0], .agg [.int 0, .int 0], .int (payE M)]) := by
  refine FnSpec.enter (S := Sy) 0 Try.func17 rfl rfl rfl Try.ntmps17 rfl rfl rfl rfl fun v0 => ?_
  (repeat' (first | ((with_reducible apply J.step); rfl; exact FM.st) | ((with_reducible apply J.eff); rfl; exact FM.ef) | ((with_reducible apply J.callP (hC)); rfl; rfl; (repeat' (first | exact ArgsOk.nil | apply ArgsOk.cons | exact ArgOk.pl rfl rfl | exact ArgOk.br rfl AV.noConfusion (by first | rfl | exact sh_int | exact sh_rows | exact sh_rowsO | exact sh_box | exact sh_map (fun _ => rfl)))); (first | rfl | exact (fun h => Bool.noConfusion h) | exact (fun _ => noSh_ints) | exact (fun _ => noSh_strs) | exact (fun _ => NoSh.str) | exact (fun _ => noSh_rows) | exact (fun _ => NoSh.int) | exact (fun _ => NoSh.bool) | exact (fun _ => NoSh.nil) | exact (fun _ => noSh_tup2 (by first | exact noSh_ints | exact noSh_strs | exact NoSh.str | exact noSh_rows | exact NoSh.nil | exact NoSh.int | exact NoSh.bool) (by first | exact noSh_ints | exact noSh_strs | exact NoSh.str | exact NoSh.int | exact NoSh.bool | exact noSh_rows | exact NoSh.nil)) | exact (fun _ => noSh_tup3 (by first | exact noSh_ints | exact noSh_strs | exact NoSh.str | exact noSh_rows | exact NoSh.nil | exact NoSh.int | exact NoSh.bool) (by first | exact noSh_ints | exact noSh_strs | exact NoSh.str | exact NoSh.int | exact NoSh.bool | exact noSh_rows | exact NoSh.nil) (by first | exact noSh_ints | exact noSh_strs | exact NoSh.str | exact NoSh.int | exact NoSh.bool | exact noSh_rows | exact NoSh.nil)))) | ((with_reducible apply J.callPQ (hC)); rfl; rfl; (repeat' (first | exact ArgsOk.nil | apply ArgsOk.cons | exact ArgOk.pl rfl rfl | exact ArgOk.br rfl AV.noConfusion (by first | rfl | exact sh_int | exact sh_rows | exact sh_rowsO | exact sh_box | exact sh_map (fun _ => rfl)))); rfl) | ((with_reducible apply J.eqNil); rfl; rfl; rfl; rfl; intro bnil hbnil) | (refine J.takeRow rfl rfl AV.noConfusion rfl (by first | assumption | (simp only [List.length_map]; omega)) ?_) | with_reducible refine J.nil ?_ | ((with_reducible apply J.skipV); rfl; rfl; rfl) | ((with_reducible apply J.skipU); rfl; rfl) | with_reducible refine CW.seq ?_ | with_reducible refine CW.block ?_ | ((with_reducible refine CW.reg ?_ ?_); rfl) | ((with_reducible refine CW.regQN ?_ ?_ ?_ ?_); rfl; kernel_rfl; rfl) | ((with_reducible refine CW.regS 1 ?_ ?_ ?_); kernel_rfl; rfl; simp only [List.length_cons, List.length_nil, Nat.reduceAdd, Nat.reduceSub, List.take_succ_cons, List.take_zero, List.drop_succ_cons, List.drop_zero]) | with_reducible refine CW.skip ?_ | with_reducible refine CW.ret ?_ | with_reducible refine CW.exit ?_ | refine CW.condT rfl ?_ | refine CW.condF rfl ?_ | (refine CW.condD rfl (fun _ => ?_) (fun _ => ?_) <;> (try (exfalso; omega))) | (refine CW.cond rfl (fun _ => ?_) (fun _ => ?_) <;> (try (exfalso; simp only [decide_eq_true_eq, decide_eq_false_iff_not, Bool.and_eq_true, Bool.or_eq_true] at *; omega))) | with_reducible refine thenQ_n ?_ | with_reducible refine blockQ_n ?_ | ((with_reducible refine blockQ_e ?_ ?_); rfl) | ((with_reducible refine blockQ_x ?_ ?_); rfl) | with_reducible refine blockQ_r ?_ | with_reducible refine thenQ_x ?_ | with_reducible refine thenQ_r ?_ | ((fail_if_success ((with_reducible apply J.step); rfl)); (fail_if_success ((with_reducible apply J.skipU); rfl)); refine J.splitG rfl rfl (fun _ => ?_) (fun _ => ?_) <;> (try (exfalso; omega))) | ((fail_if_success ((with_reducible apply J.step); rfl)); (fail_if_success ((with_reducible apply J.skipU); rfl)); refine J.splitB rfl rfl (fun _ => ?_) (fun _ => ?_))))
  all_goals first | (exfalso; omega) | exact .mk rfl rfl rfl
theorem solveFormV_spec (M : List (List Int)) (hl : M.length ≠ 2) (hl6 : M.length ≤ 6) (hC : FnSpec Sy.P 51 [.sl false 1 ((M).map rwS)] [.sl false 1 ((M).map rwS)] (.int 0)) :
    FnSpec Sy.P 17 [.sl false 1 ((M).map rwS)] [.sl false 1 ((M).map rwS)] (.tup [.agg [.int 0, .int 0], .agg [.int 0, .int 0], .int 3]) := by
  refine FnSpec.enter (S := Sy) 0 Try.func17 rfl rfl rfl Try.ntmps17 rfl rfl rfl rfl fun v0 => ?_
  (repeat' (first | ((with_reducible apply J.step); rfl; exact FM.st) | ((with_reducible apply J.eff); rfl; exact FM.ef) | ((with_reducible apply J.callP (hC)); rfl; rfl; (repeat' (first | exact ArgsOk.nil | apply ArgsOk.cons | exact ArgOk.pl rfl rfl | exact ArgOk.br rfl AV.noConfusion (by first | rfl | exact sh_int | exact sh_rows | exact sh_rowsO | exact sh_box | exact sh_map (fun _ => rfl)))); (first | rfl | exact (fun h => Bool.noConfusion h) | exact (fun _ => noSh_ints) | exact (fun _ => noSh_strs) | exact (fun _ => NoSh.str) | exact (fun _ => noSh_rows) | exact (fun _ => NoSh.int) | exact (fun _ => NoSh.bool) | exact (fun _ => NoSh.nil) | exact (fun _ => noSh_tup2 (by first | exact noSh_ints | exact noSh_strs | exact NoSh.str | exact noSh_rows | exact NoSh.nil | exact NoSh.int | exact NoSh.bool) (by first | exact noSh_ints | exact noSh_strs | exact NoSh.str | exact NoSh.int | exact NoSh.bool | exact noSh_rows | exact NoSh.nil)) | exact (fun _ => noSh_tup3 (by first | exact noSh_ints | exact noSh_strs | exact NoSh.str | exact noSh_rows | exact NoSh.nil | exact NoSh.int | exact NoSh.bool) (by first | exact noSh_ints | exact noSh_strs | exact NoSh.str | exact NoSh.int | exact NoSh.bool | exact noSh_rows | exact NoSh.nil) (by first | exact noSh_ints | exact noSh_strs | exact NoSh.str | exact NoSh.int | exact NoSh.bool | exact noSh_rows | exact NoSh.nil)))) | ((with_reducible apply J.callPQ (hC)); rfl; rfl; (repeat' (first | exact ArgsOk.nil | apply ArgsOk.cons | exact ArgOk.pl rfl rfl | exact ArgOk.br rfl AV.noConfusion (by first | rfl | exact sh_int | exact sh_rows | exact sh_rowsO | exact sh_box | exact sh_map (fun _ => rfl)))); rfl) | ((with_reducible apply J.eqNil); rfl; rfl; rfl; rfl; intro bnil hbnil) | (refine J.takeRow rfl rfl AV.noConfusion rfl (by first | assumption | (simp only [List.length_map]; omega)) ?_) | with_reducible refine J.nil ?_ | ((with_reducible apply J.skipV); rfl; rfl; rfl) | ((with_reducible apply J.skipU); rfl; rfl) | with_reducible refine CW.seq ?_ | with_reducible refine CW.block ?_ | ((with_reducible refine CW.reg ?_ ?_); rfl) | ((with_reducible refine CW.regQN ?_ ?_ ?_ ?_); rfl; kernel_rfl; rfl) | ((with_reducible refine CW.regS 1 ?_ ?_ ?_); kernel_rfl; rfl; simp only [List.length_cons, List.length_nil, Nat.reduceAdd, Nat.reduceSub, List.take_succ_cons, List.take_zero, List.drop_succ_cons, List.drop_zero]) | with_reducible refine CW.skip ?_ | with_reducible refine CW.ret ?_ | with_reducible refine CW.exit ?_ | refine CW.condT rfl ?_ | refine CW.condF rfl ?_ | (refine CW.condD rfl (fun _ => ?_) (fun _ => ?_) <;> (try (exfalso; omega))) | (refine CW.cond rfl (fun _ => ?_) (fun _ => ?_) <;> (try (exfalso; simp only [decide_eq_true_eq, decide_eq_false_iff_not, Bool.and_eq_true, Bool.or_eq_true] at *; omega))) | with_reducible refine thenQ_n ?_ | with_reducible refine blockQ_n ?_ | ((with_reducible refine blockQ_e ?_ ?_); rfl) | ((with_reducible refine blockQ_x ?_ ?_); rfl) | with_reducible refine blockQ_r ?_ | with_reducible refine thenQ_x ?_ | with_reducible refine thenQ_r ?_ | ((fail_if_success ((with_reducible apply J.step); rfl)); (fail_if_success ((with_reducible apply J.skipU); rfl)); refine J.splitG rfl rfl (fun _ => ?_) (fun _ => ?_) <;> (try (exfalso; omega))) | ((fail_if_success ((with_reducible apply J.step); rfl)); (fail_if_success ((with_reducible apply J.skipU); rfl)); refine J.splitB rfl rfl (fun _ => ?_) (fun _ => ?_))))
  all_goals first | (exfalso; omega) | exact .mk rfl rfl rfl
theorem twoV_of {M : List (List Int)} (he : payE M = 0) (hl : M.length = 2) : ∃ g A B, M = [A, B] ∧ Two g A B ∧ PayOk g [A, B] := by
  have h := payE_ok he
  match M, hl with
  | [A, B], _ =>
    have hA : A ∈ [A, B] := List.mem_cons_self ..
    have hB : B ∈ [A, B] := List.mem_cons_of_mem _ (List.mem_cons_self ..)
    have rg : ∀ r ∈ [A, B], ∀ k, -1000 ≤ r.getD k 0 ∧ r.getD k 0 ≤ 1000 := fun r hr k => h.bnd hr k
    exact ⟨_, A, B, rfl, ⟨h.g1, h.g6, h.len A hA, h.len B hB, rg A hA, rg B hB⟩, h⟩
def negR (r : List Int) : List Int := r.map fun x => -x
theorem negR_len (r : List Int) : (negR r).length = r.length := List.length_map ..
theorem negR_take {r : List Int} {k : Nat} (h : k < r.length) : negR (r.take (k + 1)) = negR (r.take k) ++ [-r[k]] := by
  unfold negR; rw [List.take_succ_eq_append_getElem h, List.map_append]; rfl
theorem negR_get {r : List Int} (k : Nat) : (negR r).getD k 0 = -(r.getD k 0) := by
  unfold negR
  rw [List.getD_eq_getElem?_getD, List.getD_eq_getElem?_getD, List.getElem?_map]
  cases r[k]? <;> simp
theorem payE_neg {g : Nat} {A B : List Int} (h : PayOk g [A, B]) : PayOk g [negR A, negR B] := by
  have hA : A ∈ [A, B] := List.mem_cons_self ..
  have hB : B ∈ [A, B] := List.mem_cons_of_mem _ (List.mem_cons_self ..)
  refine ⟨by simp, by simp, h.g1, h.g6, fun r hr => ?_, fun r hr x hx => ?_⟩
  · simp only [List.mem_cons, List.not_mem_nil, or_false] at hr
    rcases hr with rfl | rfl
    · rw [negR_len]; exact h.len A hA
    · rw [negR_len]; exact h.len B hB
  · simp only [List.mem_cons, List.not_mem_nil, or_false] at hr
    rcases hr with rfl | rfl
    · obtain ⟨y, hy, rfl⟩ := List.mem_map.1 hx
      have := h.range A hA y hy; omega
    · obtain ⟨y, hy, rfl⟩ := List.mem_map.1 hx
      have := h.range B hB y hy; omega
theorem pRows_ok {g : Nat} : ∀ {M : List (List Int)}, (∀ r ∈ M, r.length = g) → 1 ≤ g → g ≤ 6 → (∀ r ∈ M, ∀ x ∈ r, -1000 ≤ x ∧ x ≤ 1000) → pRows g M = 0
  | [], _, _, _, _ => rfl
  | r :: rs, h1, h2, h3, h4 => by
    have hr := h1 r (List.mem_cons_self ..)
    unfold pRows
    rw [if_neg (by simpa using hr), if_neg (by omega), if_neg]
    · exact pRows_ok (fun x hx => h1 x (List.mem_cons_of_mem _ hx)) h2 h3 (fun x hx => h4 x (List.mem_cons_of_mem _ hx))
    · intro hb
      obtain ⟨x, hx, hbx⟩ := List.any_eq_true.1 hb
      have := h4 r (List.mem_cons_self ..) x hx
      unfold badP at hbx
      have := of_decide_eq_true hbx
      omega
theorem PayOk.zero {g : Nat} {M : List (List Int)} (h : PayOk g M) : payE M = 0 := by
  have h1 := h.n1; have h6 := h.n6
  obtain ⟨r0, hr0, hl⟩ := h.first
  unfold payE
  rw [if_neg (by omega)]
  have : (M.getD 0 []).length = g := by rw [List.getD_eq_getElem?_getD, hr0]; exact hl
  rw [this]
  exact pRows_ok h.len h.g1 h.g6 h.range
theorem ptA_nil {P : Nat → Nat → Bool} {g n : Nat} : (ptA P g n).length = 0 ↔ ¬ ∃ i k, i < n ∧ k < g ∧ P i k = true := by
  rw [List.length_eq_zero_iff]
  constructor
  · rintro h ⟨i, k, hi, hk, hp⟩
    have : (i, k) ∈ ptA P g n := by
      unfold ptA
      refine List.mem_flatMap.2 ⟨i, List.mem_range.2 hi, ?_⟩
      unfold ptR
      exact List.mem_map.2 ⟨k, List.mem_filter.2 ⟨List.mem_range.2 hk, hp⟩, rfl⟩
    rw [h] at this; cases this
  · intro h
    refine List.eq_nil_iff_forall_not_mem.2 fun x hx => h ?_
    obtain ⟨i, hi, hx⟩ := List.mem_flatMap.1 hx
    obtain ⟨k, hk, rfl⟩ := List.mem_map.1 hx
    obtain ⟨h1, h2⟩ := List.mem_filter.1 hk
    exact ⟨i, k, List.mem_range.1 hi, List.mem_range.1 h1, h2⟩
theorem lmin_least {g : Nat} {r : List Int} (hl : r.length = g) (hg : 1 ≤ g) (hb : ∀ k, -1000 ≤ r.getD k 0 ∧ r.getD k 0 ≤ 1000) : (∃ k, k < g ∧ r.getD k 0 = lmin 1000 r) ∧ ∀ k, k < g → lmin 1000 r ≤ r.getD k 0 := by
  obtain ⟨h1, h2, h3⟩ := lmin_spec r 1000
  have hm : ∀ k, k < g → r.getD k 0 ∈ r := fun k hk => by rw [List.getD_eq_getElem?_getD, List.getElem?_eq_getElem (by omega)]; exact List.getElem_mem _
  refine ⟨?_, fun k hk => h2 _ (hm k hk)⟩
  rcases h3 with h3 | h3
  · have := h2 _ (hm 0 (by omega)); have := hb 0
    exact ⟨0, by omega, by omega⟩
  · obtain ⟨k, hk, e⟩ := List.getElem_of_mem h3
    exact ⟨k, by omega, by rw [List.getD_eq_getElem?_getD, List.getElem?_eq_getElem hk]; exact e⟩
theorem rests_iff {g : Nat} {A B : List Int} (h : Two g A B) (P : PayOk g [A, B]) : (∃ i k, i < 2 ∧ k < g ∧ rS [A, B] [negR A, negR B] i k = true) ↔ ∃ k, k < g ∧ ((A.getD k 0 = lmin 1000 A ∧ B.getD k 0 ≤ A.getD k 0) ∨ (B.getD k 0 = lmin 1000 B ∧ A.getD k 0 ≤ B.getD k 0)) := by
  obtain ⟨⟨ka, hka, ea⟩, la⟩ := lmin_least h.la h.g1 h.ra
  obtain ⟨⟨kb, hkb, eb⟩, lb⟩ := lmin_least h.lb h.g1 h.rb
  have hc : ∀ k, col [A, B] k = [A.getD k 0, B.getD k 0] := fun k => rfl
  have hn : ∀ (r : List Int), r.length = g → ∀ k, geA ((negR r).getD k 0) (negR r) = true ↔ ∀ j, j < g → r.getD k 0 ≤ r.getD j 0 := fun r hr k => by
    rw [geA_iff, negR_get]
    constructor
    · intro h1 j hj
      have := h1 (-(r.getD j 0)) (by unfold negR; exact List.mem_map.2 ⟨r.getD j 0, by rw [List.getD_eq_getElem?_getD, List.getElem?_eq_getElem (by omega)]; exact List.getElem_mem _, rfl⟩)
      omega
    · intro h1 y hy
      unfold negR at hy
      obtain ⟨z, hz, rfl⟩ := List.mem_map.1 hy
      obtain ⟨j, hj, e⟩ := List.getElem_of_mem hz
      have := h1 j (by omega)
      rw [List.getD_eq_getElem?_getD (l := r) (i := j), List.getElem?_eq_getElem hj] at this
      simp only [Option.getD_some, e] at this
      omega
  have key : ∀ k, k < g → (rS [A, B] [negR A, negR B] 0 k = true ↔ (A.getD k 0 = lmin 1000 A ∧ B.getD k 0 ≤ A.getD k 0)) ∧ (rS [A, B] [negR A, negR B] 1 k = true ↔ (B.getD k 0 = lmin 1000 B ∧ A.getD k 0 ≤ B.getD k 0)) := fun k hk => by
    refine ⟨?_, ?_⟩
    · show ((geA (A.getD k 0) (col [A, B] k) && geA ((negR A).getD k 0) (negR A)) = true) ↔ _
      rw [Bool.and_eq_true, hn A h.la, hc, geA_iff]
      constructor
      · rintro ⟨h1, h2⟩
        have a1 := h1 (B.getD k 0) (by simp)
        have a2 := h2 ka hka
        have a3 := la k hk
        exact ⟨by omega, a1⟩
      · rintro ⟨h1, h2⟩
        refine ⟨fun y hy => ?_, fun j hj => by rw [h1]; exact la j hj⟩
        simp only [List.mem_cons, List.not_mem_nil, or_false] at hy
        omega
    · show ((geA (B.getD k 0) (col [A, B] k) && geA ((negR B).getD k 0) (negR B)) = true) ↔ _
      rw [Bool.and_eq_true, hn B h.lb, hc, geA_iff]
      constructor
      · rintro ⟨h1, h2⟩
        have a1 := h1 (A.getD k 0) (by simp)
        have a2 := h2 kb hkb
        have a3 := lb k hk
        exact ⟨by omega, a1⟩
      · rintro ⟨h1, h2⟩
        refine ⟨fun y hy => ?_, fun j hj => by rw [h1]; exact lb j hj⟩
        simp only [List.mem_cons, List.not_mem_nil, or_false] at hy
        omega
  constructor
  · rintro ⟨i, k, hi, hk, hp⟩
    match i, hi with
    | 0, _ => exact ⟨k, hk, .inl ((key k hk).1.1 hp)⟩
    | 1, _ => exact ⟨k, hk, .inr ((key k hk).2.1 hp)⟩
  · rintro ⟨k, hk, hp | hp⟩
    · exact ⟨0, k, by decide, hk, (key k hk).1.2 hp⟩
    · exact ⟨1, k, by decide, hk, (key k hk).2.2 hp⟩
theorem lowOf_two {A B : List Int} (hA : ∀ x ∈ A, -1000 ≤ x) (hB : ∀ x ∈ B, -1000 ≤ x) : lowOf [A, B] = max (lmin 1000 A) (lmin 1000 B) := by
  have h : ∀ r : List Int, (∀ x ∈ r, -1000 ≤ x) → -1000 ≤ lmin 1000 r := fun r hr => by
    rcases (lmin_spec r 1000).2.2 with e | e
    · omega
    · exact hr _ e
  have a := h A hA
  have b := h B hB
  show max (max (-1000) (lmin 1000 A)) (lmin 1000 B) = _
  omega
/-- The law itself: mixing gains just if there is no rest. -/
theorem value_law {g : Nat} {A B : List Int} (h : Two g A B) (P : PayOk g [A, B]) (c : Int × Int) (hc : outr A B (fun f => lst A B f g) g = c) :
    (lowOf [A, B] * (lowT (lst A B c g) c.2).2 < (lowT (lst A B c g) c.2).1 ↔ (ptA (rS [A, B] [negR A, negR B]) g 2).length = 0) := by
  have hA : A ∈ [A, B] := List.mem_cons_self ..
  have hB : B ∈ [A, B] := List.mem_cons_of_mem _ (List.mem_cons_self ..)
  have hbest : Best (fun f => lst A B f g) (inPl A B g) c := hc ▸ (outr_best g).congr seen_inPl
  have hok : okF c := hc ▸ outr_ok h g
  obtain ⟨ma, la⟩ := lmin_least h.la h.g1 h.ra
  obtain ⟨mb, lb⟩ := lmin_least h.lb h.g1 h.rb
  have hg := gain_iff ma la mb lb hbest ⟨hok.1, hok.2.1, hok.2.2.1⟩
  rw [← lowOf_two (fun x hx => (P.range A hA x hx).1) (fun x hx => (P.range B hB x hx).1), ← rests_iff h P] at hg
  rw [ptA_nil, ← hg]
  obtain ⟨e1, e2, _⟩ := lowT_spec (p := lst A B c g) hok.2.2.1
  generalize lst A B c g = v at *
  generalize lowT v c.2 = x at *
  generalize lowOf [A, B] = a at *
  have hc2 := hok.2.2.1
  constructor
  · intro h1
    have := cross_lt (b := 1) (f := c.2) (by decide) e2 hc2 (show a * x.2 < x.1 * 1 by omega) (Int.le_of_eq e1)
    omega
  · intro h1
    have := cross_lt (b := 1) (f := x.2) (by decide) hc2 e2 (show a * c.2 < v * 1 by omega) (Int.le_of_eq e1.symm)
    omega
theorem topVerr_two (M : List (List Int)) (hM : M.length ≤ 9223372036854775807) (h2 : 2 < M.length) (e : Int) (he : e ≠ 0)
    (hS : FnSpec Sy.P 17 [.sl false 1 ((M.take (2 : Int).toNat).map rwS)] [.sl false 1 ((M.take (2 : Int).toNat).map rwS)] (.tup [.agg [.int 0, .int 0], .agg [.int 0, .int 0], .int e]))
    (hBo : ∃ a b f : Int, FnSpec Sy.P 18 [.sl false 1 ((M.take (2 : Int).toNat).map rwS)] [.sl false 1 ((M.take (2 : Int).toNat).map rwS)] (.tup [.int a, .int b, .int f])) : FnSpec Sy.P 4 [.sl false 1 ((M).map rwS)] [.sl false 1 ((M).map rwS)] (.bool true) := by
  obtain ⟨a, b, f, hBo⟩ := hBo
  have hWk := works_spec
  refine FnSpec.enter (S := Sy) 0 Try.func4 rfl rfl rfl Try.ntmps4 rfl rfl rfl rfl fun v0 => ?_
  (repeat' (first | ((with_reducible apply J.step); rfl; (exact s_eqS2 Try.underlying35 rfl rfl rfl rfl (by decide) (by decide) stood35v Try.underlying3 guard35v rfl rfl)) | ((with_reducible apply J.step); rfl; exact FM.st) | ((with_reducible apply J.eff); rfl; exact FM.ef) | ((with_reducible apply J.callP (hS)); rfl; rfl; (repeat' (first | exact ArgsOk.nil | apply ArgsOk.cons | exact ArgOk.pl rfl rfl | exact ArgOk.br rfl AV.noConfusion (by first | rfl | exact sh_int | exact sh_rows | exact sh_rowsO | exact sh_box | exact sh_map (fun _ => rfl)))); (first | rfl | exact (fun h => Bool.noConfusion h) | exact (fun _ => noSh_ints) | exact (fun _ => noSh_strs) | exact (fun _ => NoSh.str) | exact (fun _ => noSh_rows) | exact (fun _ => NoSh.int) | exact (fun _ => NoSh.bool) | exact (fun _ => NoSh.nil) | exact (fun _ => noSh_tup2 (by first | exact noSh_ints | exact noSh_strs | exact NoSh.str | exact noSh_rows | exact NoSh.nil | exact NoSh.int | exact NoSh.bool) (by first | exact noSh_ints | exact noSh_strs | exact NoSh.str | exact NoSh.int | exact NoSh.bool | exact noSh_rows | exact NoSh.nil)) | exact (fun _ => noSh_tup3 (by first | exact noSh_ints | exact noSh_strs | exact NoSh.str | exact noSh_rows | exact NoSh.nil | exact NoSh.int | exact NoSh.bool) (by first | exact noSh_ints | exact noSh_strs | exact NoSh.str | exact NoSh.int | exact NoSh.bool | exact noSh_rows | exact NoSh.nil) (by first | exact noSh_ints | exact noSh_strs | exact NoSh.str | exact NoSh.int | exact NoSh.bool | exact noSh_rows | exact NoSh.nil)))) | ((with_reducible apply J.callPQ (hS)); rfl; rfl; (repeat' (first | exact ArgsOk.nil | apply ArgsOk.cons | exact ArgOk.pl rfl rfl | exact ArgOk.br rfl AV.noConfusion (by first | rfl | exact sh_int | exact sh_rows | exact sh_rowsO | exact sh_box | exact sh_map (fun _ => rfl)))); rfl) | ((with_reducible apply J.callP (hBo)); rfl; rfl; (repeat' (first | exact ArgsOk.nil | apply ArgsOk.cons | exact ArgOk.pl rfl rfl | exact ArgOk.br rfl AV.noConfusion (by first | rfl | exact sh_int | exact sh_rows | exact sh_rowsO | exact sh_box | exact sh_map (fun _ => rfl)))); (first | rfl | exact (fun h => Bool.noConfusion h) | exact (fun _ => noSh_ints) | exact (fun _ => noSh_strs) | exact (fun _ => NoSh.str) | exact (fun _ => noSh_rows) | exact (fun _ => NoSh.int) | exact (fun _ => NoSh.bool) | exact (fun _ => NoSh.nil) | exact (fun _ => noSh_tup2 (by first | exact noSh_ints | exact noSh_strs | exact NoSh.str | exact noSh_rows | exact NoSh.nil | exact NoSh.int | exact NoSh.bool) (by first | exact noSh_ints | exact noSh_strs | exact NoSh.str | exact NoSh.int | exact NoSh.bool | exact noSh_rows | exact NoSh.nil)) | exact (fun _ => noSh_tup3 (by first | exact noSh_ints | exact noSh_strs | exact NoSh.str | exact noSh_rows | exact NoSh.nil | exact NoSh.int | exact NoSh.bool) (by first | exact noSh_ints | exact noSh_strs | exact NoSh.str | exact NoSh.int | exact NoSh.bool | exact noSh_rows | exact NoSh.nil) (by first | exact noSh_ints | exact noSh_strs | exact NoSh.str | exact NoSh.int | exact NoSh.bool | exact noSh_rows | exact NoSh.nil)))) | ((with_reducible apply J.callPQ (hBo)); rfl; rfl; (repeat' (first | exact ArgsOk.nil | apply ArgsOk.cons | exact ArgOk.pl rfl rfl | exact ArgOk.br rfl AV.noConfusion (by first | rfl | exact sh_int | exact sh_rows | exact sh_rowsO | exact sh_box | exact sh_map (fun _ => rfl)))); rfl) | ((with_reducible apply J.callP (hWk)); rfl; rfl; (repeat' (first | exact ArgsOk.nil | apply ArgsOk.cons | exact ArgOk.pl rfl rfl | exact ArgOk.br rfl AV.noConfusion (by first | rfl | exact sh_int | exact sh_rows | exact sh_rowsO | exact sh_box | exact sh_map (fun _ => rfl)))); (first | rfl | exact (fun h => Bool.noConfusion h) | exact (fun _ => noSh_ints) | exact (fun _ => noSh_strs) | exact (fun _ => NoSh.str) | exact (fun _ => noSh_rows) | exact (fun _ => NoSh.int) | exact (fun _ => NoSh.bool) | exact (fun _ => NoSh.nil) | exact (fun _ => noSh_tup2 (by first | exact noSh_ints | exact noSh_strs | exact NoSh.str | exact noSh_rows | exact NoSh.nil | exact NoSh.int | exact NoSh.bool) (by first | exact noSh_ints | exact noSh_strs | exact NoSh.str | exact NoSh.int | exact NoSh.bool | exact noSh_rows | exact NoSh.nil)) | exact (fun _ => noSh_tup3 (by first | exact noSh_ints | exact noSh_strs | exact NoSh.str | exact noSh_rows | exact NoSh.nil | exact NoSh.int | exact NoSh.bool) (by first | exact noSh_ints | exact noSh_strs | exact NoSh.str | exact NoSh.int | exact NoSh.bool | exact noSh_rows | exact NoSh.nil) (by first | exact noSh_ints | exact noSh_strs | exact NoSh.str | exact NoSh.int | exact NoSh.bool | exact noSh_rows | exact NoSh.nil)))) | ((with_reducible apply J.callPQ (hWk)); rfl; rfl; (repeat' (first | exact ArgsOk.nil | apply ArgsOk.cons | exact ArgOk.pl rfl rfl | exact ArgOk.br rfl AV.noConfusion (by first | rfl | exact sh_int | exact sh_rows | exact sh_rowsO | exact sh_box | exact sh_map (fun _ => rfl)))); rfl) | ((with_reducible apply J.eqNil); rfl; rfl; rfl; rfl; intro bnil hbnil) | (refine J.takeRow rfl rfl AV.noConfusion rfl (by first | assumption | (simp only [List.length_map]; omega)) ?_) | with_reducible refine J.nil ?_ | ((with_reducible apply J.skipV); rfl; rfl; rfl) | ((with_reducible apply J.skipU); rfl; rfl) | with_reducible refine CW.seq ?_ | with_reducible refine CW.block ?_ | ((with_reducible refine CW.reg ?_ ?_); rfl) | ((with_reducible refine CW.regQN ?_ ?_ ?_ ?_); rfl; kernel_rfl; rfl) | ((with_reducible refine CW.regS 1 ?_ ?_ ?_); kernel_rfl; rfl; simp only [List.length_cons, List.length_nil, Nat.reduceAdd, Nat.reduceSub, List.take_succ_cons, List.take_zero, List.drop_succ_cons, List.drop_zero]) | with_reducible refine CW.skip ?_ | with_reducible refine CW.ret ?_ | with_reducible refine CW.exit ?_ | refine CW.condT rfl ?_ | refine CW.condF rfl ?_ | (refine CW.condD rfl (fun _ => ?_) (fun _ => ?_) <;> (try (exfalso; omega))) | (refine CW.cond rfl (fun _ => ?_) (fun _ => ?_) <;> (try (exfalso; simp only [decide_eq_true_eq, decide_eq_false_iff_not, Bool.and_eq_true, Bool.or_eq_true] at *; omega))) | with_reducible refine thenQ_n ?_ | with_reducible refine blockQ_n ?_ | ((with_reducible refine blockQ_e ?_ ?_); rfl) | ((with_reducible refine blockQ_x ?_ ?_); rfl) | with_reducible refine blockQ_r ?_ | with_reducible refine thenQ_x ?_ | with_reducible refine thenQ_r ?_ | ((fail_if_success ((with_reducible apply J.step); rfl)); (fail_if_success ((with_reducible apply J.skipU); rfl)); refine J.splitG rfl rfl (fun _ => ?_) (fun _ => ?_) <;> (try (exfalso; omega))) | ((fail_if_success ((with_reducible apply J.step); rfl)); (fail_if_success ((with_reducible apply J.skipU); rfl)); refine J.splitB rfl rfl (fun _ => ?_) (fun _ => ?_))))
  all_goals first | (exfalso; omega) | exact .mk rfl rfl rfl | exact .mk rfl (congrArg AV.bool (by simp)) rfl
theorem topVok_two (M : List (List Int)) (hM : M.length ≤ 9223372036854775807) (h2 : 2 < M.length) (g : Nat) (A B : List Int) (hT : M.take (2 : Int).toNat = [A, B]) (h : Two g A B) (P : PayOk g [A, B])
    (hC : FnSpec Sy.P 51 [.sl false 1 (([A, B]).map rwS)] [.sl false 1 (([A, B]).map rwS)] (.int 0)) : FnSpec Sy.P 4 [.sl false 1 ((M).map rwS)] [.sl false 1 ((M).map rwS)] (.bool true) := by
  have hWk := works_spec
  have hBo := bounds_spec g [A, B] P hC
  obtain ⟨c, hc⟩ : ∃ c, outr A B (fun f => lst A B f g) g = c := ⟨_, rfl⟩
  have hS := solve_spec g A B h hC c hc
  have hlaw := value_law h P c hc
  have Pn := payE_neg P
  have hCe := equilCheck_spec [A, B] [negR A, negR B] (by simp) (by simp) (fun r hx => by rw [P.len r hx]; have := P.g6; omega) (fun r hx => by rw [Pn.len r hx]; have := P.g6; omega)
  have hge : gErr [A, B] [negR A, negR B] = 0 := by
    unfold gErr
    rw [if_neg (by rw [P.zero]; simp), if_neg (by rw [Pn.zero]; simp), if_neg]
    simp [negR_len]
  rw [hge] at hCe
  have hRe := rest_spec 2 g [A, B] [negR A, negR B] ⟨P, Pn, rfl, rfl⟩ hCe
  have hok : okF c := hc ▸ outr_ok h g
  have hlb := lowT_bnd (p := lst A B c g) (m := 4000000) hok.2.2.1 (lst_bnd h hok g) (by have := hok.2.2.2; omega)
  have hlo2 : lowOf [A, B] = max (lmin 1000 A) (lmin 1000 B) := lowOf_two (fun x hx => (P.range A (List.mem_cons_self ..) x hx).1) (fun x hx => (P.range B (List.mem_cons_of_mem _ (List.mem_cons_self ..)) x hx).1)
  obtain ⟨⟨ka, _, ea⟩, _⟩ := lmin_least h.la h.g1 h.ra
  obtain ⟨⟨kb, _, eb⟩, _⟩ := lmin_least h.lb h.g1 h.rb
  have hra := h.ra ka
  have hrb := h.rb kb
  have hm := mulB (a := 1000) (b := 4000000) (x := lowOf [A, B]) (y := (lowT (lst A B c g) c.2).2) (by omega) ⟨by omega, hlb.2.2⟩ (by decide)
  have hng : ([A, B] : List (List Int)).map negR = [negR A, negR B] := rfl
  have hrow : ∀ r ∈ [A, B], r.length = g := P.len
  have hrow2 : ∀ r ∈ [A, B], ∀ x ∈ r, -1000 ≤ x ∧ x ≤ 1000 := P.range
  have hg6 := P.g6
  have hTl : ([A, B] : List (List Int)).length = 2 := rfl
  rw [← hng] at hRe hlaw
  rw [← hT] at hS hlaw hRe hm hrow hrow2 hTl hBo
  clear hC hCe hge Pn hlo2 P hok hc h
  generalize lst A B c g = v at *
  generalize lowT v c.2 = x at *
  generalize lowT c.1 c.2 = y at *
  generalize hlow : lowOf (M.take (2 : Int).toNat) = lo at *
  generalize highOf g (M.take (2 : Int).toNat) = hi at *
  generalize hpt : ptA (rS (M.take (2 : Int).toNat) ((M.take (2 : Int).toNat).map negR)) g 2 = pt at *
  clear hlow hpt hT
  have hns : NoSh (.tup [.sl true 2 (pt.map pt2), .int 0]) := .tup fun z hz => by
    simp only [List.mem_cons, List.not_mem_nil, or_false] at hz
    rcases hz with rfl | rfl
    · exact .sl fun z hz => by obtain ⟨q, _, rfl⟩ := List.mem_map.1 hz; exact noSh_aggL rfl
    · exact .int
  refine FnSpec.enter (S := Sy) 0 Try.func4 rfl rfl rfl Try.ntmps4 rfl rfl rfl rfl fun v0 => ?_
  (repeat' (first | ((with_reducible apply J.step); rfl; (exact s_eqS2 Try.underlying35 rfl rfl rfl rfl (by decide) (by decide) stood35v Try.underlying3 guard35v rfl rfl)) | ((with_reducible apply J.step); rfl; exact FM.st) | ((with_reducible apply J.eff); rfl; exact FM.ef) | ((with_reducible apply J.callP (hS)); rfl; rfl; (repeat' (first | exact ArgsOk.nil | apply ArgsOk.cons | exact ArgOk.pl rfl rfl | exact ArgOk.br rfl AV.noConfusion (by first | rfl | exact sh_int | exact sh_rows | exact sh_rowsO | exact sh_box | exact sh_map (fun _ => rfl)))); (first | rfl | exact (fun h => Bool.noConfusion h) | exact (fun _ => noSh_ints) | exact (fun _ => noSh_strs) | exact (fun _ => NoSh.str) | exact (fun _ => noSh_rows) | exact (fun _ => NoSh.int) | exact (fun _ => NoSh.bool) | exact (fun _ => NoSh.nil) | exact (fun _ => noSh_tup2 (by first | exact noSh_ints | exact noSh_strs | exact NoSh.str | exact noSh_rows | exact NoSh.nil | exact NoSh.int | exact NoSh.bool) (by first | exact noSh_ints | exact noSh_strs | exact NoSh.str | exact NoSh.int | exact NoSh.bool | exact noSh_rows | exact NoSh.nil)) | exact (fun _ => noSh_tup3 (by first | exact noSh_ints | exact noSh_strs | exact NoSh.str | exact noSh_rows | exact NoSh.nil | exact NoSh.int | exact NoSh.bool) (by first | exact noSh_ints | exact noSh_strs | exact NoSh.str | exact NoSh.int | exact NoSh.bool | exact noSh_rows | exact NoSh.nil) (by first | exact noSh_ints | exact noSh_strs | exact NoSh.str | exact NoSh.int | exact NoSh.bool | exact noSh_rows | exact NoSh.nil)))) | ((with_reducible apply J.callPQ (hS)); rfl; rfl; (repeat' (first | exact ArgsOk.nil | apply ArgsOk.cons | exact ArgOk.pl rfl rfl | exact ArgOk.br rfl AV.noConfusion (by first | rfl | exact sh_int | exact sh_rows | exact sh_rowsO | exact sh_box | exact sh_map (fun _ => rfl)))); rfl) | ((with_reducible apply J.callP (hBo)); rfl; rfl; (repeat' (first | exact ArgsOk.nil | apply ArgsOk.cons | exact ArgOk.pl rfl rfl | exact ArgOk.br rfl AV.noConfusion (by first | rfl | exact sh_int | exact sh_rows | exact sh_rowsO | exact sh_box | exact sh_map (fun _ => rfl)))); (first | rfl | exact (fun h => Bool.noConfusion h) | exact (fun _ => noSh_ints) | exact (fun _ => noSh_strs) | exact (fun _ => NoSh.str) | exact (fun _ => noSh_rows) | exact (fun _ => NoSh.int) | exact (fun _ => NoSh.bool) | exact (fun _ => NoSh.nil) | exact (fun _ => noSh_tup2 (by first | exact noSh_ints | exact noSh_strs | exact NoSh.str | exact noSh_rows | exact NoSh.nil | exact NoSh.int | exact NoSh.bool) (by first | exact noSh_ints | exact noSh_strs | exact NoSh.str | exact NoSh.int | exact NoSh.bool | exact noSh_rows | exact NoSh.nil)) | exact (fun _ => noSh_tup3 (by first | exact noSh_ints | exact noSh_strs | exact NoSh.str | exact noSh_rows | exact NoSh.nil | exact NoSh.int | exact NoSh.bool) (by first | exact noSh_ints | exact noSh_strs | exact NoSh.str | exact NoSh.int | exact NoSh.bool | exact noSh_rows | exact NoSh.nil) (by first | exact noSh_ints | exact noSh_strs | exact NoSh.str | exact NoSh.int | exact NoSh.bool | exact noSh_rows | exact NoSh.nil)))) | ((with_reducible apply J.callPQ (hBo)); rfl; rfl; (repeat' (first | exact ArgsOk.nil | apply ArgsOk.cons | exact ArgOk.pl rfl rfl | exact ArgOk.br rfl AV.noConfusion (by first | rfl | exact sh_int | exact sh_rows | exact sh_rowsO | exact sh_box | exact sh_map (fun _ => rfl)))); rfl) | ((with_reducible apply J.callP (hWk)); rfl; rfl; (repeat' (first | exact ArgsOk.nil | apply ArgsOk.cons | exact ArgOk.pl rfl rfl | exact ArgOk.br rfl AV.noConfusion (by first | rfl | exact sh_int | exact sh_rows | exact sh_rowsO | exact sh_box | exact sh_map (fun _ => rfl)))); (first | rfl | exact (fun h => Bool.noConfusion h) | exact (fun _ => noSh_ints) | exact (fun _ => noSh_strs) | exact (fun _ => NoSh.str) | exact (fun _ => noSh_rows) | exact (fun _ => NoSh.int) | exact (fun _ => NoSh.bool) | exact (fun _ => NoSh.nil) | exact (fun _ => noSh_tup2 (by first | exact noSh_ints | exact noSh_strs | exact NoSh.str | exact noSh_rows | exact NoSh.nil | exact NoSh.int | exact NoSh.bool) (by first | exact noSh_ints | exact noSh_strs | exact NoSh.str | exact NoSh.int | exact NoSh.bool | exact noSh_rows | exact NoSh.nil)) | exact (fun _ => noSh_tup3 (by first | exact noSh_ints | exact noSh_strs | exact NoSh.str | exact noSh_rows | exact NoSh.nil | exact NoSh.int | exact NoSh.bool) (by first | exact noSh_ints | exact noSh_strs | exact NoSh.str | exact NoSh.int | exact NoSh.bool | exact noSh_rows | exact NoSh.nil) (by first | exact noSh_ints | exact noSh_strs | exact NoSh.str | exact NoSh.int | exact NoSh.bool | exact noSh_rows | exact NoSh.nil)))) | ((with_reducible apply J.callPQ (hWk)); rfl; rfl; (repeat' (first | exact ArgsOk.nil | apply ArgsOk.cons | exact ArgOk.pl rfl rfl | exact ArgOk.br rfl AV.noConfusion (by first | rfl | exact sh_int | exact sh_rows | exact sh_rowsO | exact sh_box | exact sh_map (fun _ => rfl)))); rfl) | ((with_reducible apply J.eqNil); rfl; rfl; rfl; rfl; intro bnil hbnil) | (refine J.takeRow rfl rfl AV.noConfusion rfl (by first | assumption | (simp only [List.length_map]; omega)) ?_) | with_reducible refine J.nil ?_ | ((with_reducible apply J.skipV); rfl; rfl; rfl) | ((with_reducible apply J.skipU); rfl; rfl) | with_reducible refine CW.seq ?_ | with_reducible refine CW.block ?_ | ((with_reducible refine CW.reg ?_ ?_); rfl) | ((with_reducible refine CW.regQN ?_ ?_ ?_ ?_); rfl; kernel_rfl; rfl) | ((with_reducible refine CW.regS 1 ?_ ?_ ?_); kernel_rfl; rfl; simp only [List.length_cons, List.length_nil, Nat.reduceAdd, Nat.reduceSub, List.take_succ_cons, List.take_zero, List.drop_succ_cons, List.drop_zero]) | with_reducible refine CW.skip ?_ | with_reducible refine CW.ret ?_ | with_reducible refine CW.exit ?_ | refine CW.condT rfl ?_ | refine CW.condF rfl ?_ | (refine CW.condD rfl (fun _ => ?_) (fun _ => ?_) <;> (try (exfalso; omega))) | (refine CW.cond rfl (fun _ => ?_) (fun _ => ?_) <;> (try (exfalso; simp only [decide_eq_true_eq, decide_eq_false_iff_not, Bool.and_eq_true, Bool.or_eq_true] at *; omega))) | with_reducible refine thenQ_n ?_ | with_reducible refine blockQ_n ?_ | ((with_reducible refine blockQ_e ?_ ?_); rfl) | ((with_reducible refine blockQ_x ?_ ?_); rfl) | with_reducible refine blockQ_r ?_ | with_reducible refine thenQ_x ?_ | with_reducible refine thenQ_r ?_ | ((fail_if_success ((with_reducible apply J.step); rfl)); (fail_if_success ((with_reducible apply J.skipU); rfl)); refine J.splitG rfl rfl (fun _ => ?_) (fun _ => ?_) <;> (try (exfalso; omega))) | ((fail_if_success ((with_reducible apply J.step); rfl)); (fail_if_success ((with_reducible apply J.skipU); rfl)); refine J.splitB rfl rfl (fun _ => ?_) (fun _ => ?_))))
  all_goals first | (exfalso; omega) | skip
  refine CW.own 9 1 rfl ?_
  refine CW.loop (fun k : Nat => [(0, .av (.sl false 1 ((M.take (2 : Int).toNat).map rwS))), (4, .av (.pt true [.int x.1, .int x.2])), (6, .av (.int (lo))), (9, .av (.sl true 1 ((((M.take (2 : Int).toNat).take k).map negR).map rwS))), (50, .av (.sl false 1 ((M.take (2 : Int).toNat).map rwS))), (51, .av (.int ((M.take (2 : Int).toNat).length))), (52, .av (.int (k)))]) (fun k => k ≤ (M.take (2 : Int).toNat).length) (fun k => (M.take (2 : Int).toNat).length - k) (0) ?_ (by (repeat' (first | exact trivial | rfl | refine And.intro ?_ ?_ | exact int_congr (by omega) | exact ints_congr (by first | assumption | exact Eq.symm (by assumption)) | exact int_congr (by assumption) | exact bool_congr (by first | assumption | exact Eq.symm (by assumption)) | exact map_congr' (by first | assumption | exact Eq.symm (by assumption))))) ?_
  · exact Nat.zero_le _
  intro k hk
  have htl : (((M.take (2 : Int).toNat).take k).map negR).length ≤ 2 := by rw [List.length_map, List.length_take]; omega
  by_cases hkl : k < (M.take (2 : Int).toNat).length
  · have hx : (M.take (2 : Int).toNat)[k]? = some (M.take (2 : Int).toNat)[k] := List.getElem?_eq_getElem hkl
    have hts : ((M.take (2 : Int).toNat).take (k + 1)).map negR = ((M.take (2 : Int).toNat).take k).map negR ++ [negR (M.take (2 : Int).toNat)[k]] := by rw [List.take_succ_eq_append_getElem hkl, List.map_append]; rfl
    have hrl := hrow _ (List.getElem_mem hkl)
    have hrr := hrow2 _ (List.getElem_mem hkl)
    generalize hLL : ((M.take (2 : Int).toNat).take k).map negR = LL at *
    generalize (M.take (2 : Int).toNat)[k] = r at *
    (repeat' (first | ((with_reducible apply J.step); rfl; exact FM.st) | ((with_reducible apply J.eff); rfl; exact FM.ef) | ((with_reducible apply J.eqNil); rfl; rfl; rfl; rfl; intro bnil hbnil) | (refine J.takeRow rfl rfl AV.noConfusion rfl (by first | assumption | (simp only [List.length_map]; omega)) ?_) | with_reducible refine J.nil ?_ | ((with_reducible apply J.skipV); rfl; rfl; rfl) | ((with_reducible apply J.skipU); rfl; rfl) | with_reducible refine CW.seq ?_ | with_reducible refine CW.block ?_ | ((with_reducible refine CW.reg ?_ ?_); rfl) | ((with_reducible refine CW.regQN ?_ ?_ ?_ ?_); rfl; kernel_rfl; rfl) | ((with_reducible refine CW.regS 1 ?_ ?_ ?_); kernel_rfl; rfl; simp only [List.length_cons, List.length_nil, Nat.reduceAdd, Nat.reduceSub, List.take_succ_cons, List.take_zero, List.drop_succ_cons, List.drop_zero]) | with_reducible refine CW.skip ?_ | with_reducible refine CW.ret ?_ | with_reducible refine CW.exit ?_ | refine CW.condT rfl ?_ | refine CW.condF rfl ?_ | (refine CW.condD rfl (fun _ => ?_) (fun _ => ?_) <;> (try (exfalso; omega))) | (refine CW.cond rfl (fun _ => ?_) (fun _ => ?_) <;> (try (exfalso; simp only [decide_eq_true_eq, decide_eq_false_iff_not, Bool.and_eq_true, Bool.or_eq_true] at *; omega))) | with_reducible refine thenQ_n ?_ | with_reducible refine blockQ_n ?_ | ((with_reducible refine blockQ_e ?_ ?_); rfl) | ((with_reducible refine blockQ_x ?_ ?_); rfl) | with_reducible refine blockQ_r ?_ | with_reducible refine thenQ_x ?_ | with_reducible refine thenQ_r ?_ | ((fail_if_success ((with_reducible apply J.step); rfl)); (fail_if_success ((with_reducible apply J.skipU); rfl)); refine J.splitG rfl rfl (fun _ => ?_) (fun _ => ?_) <;> (try (exfalso; omega))) | ((fail_if_success ((with_reducible apply J.step); rfl)); (fail_if_success ((with_reducible apply J.skipU); rfl)); refine J.splitB rfl rfl (fun _ => ?_) (fun _ => ?_))))
    all_goals first | (exfalso; omega) | skip
    refine CW.own 12 1 rfl ?_
    refine CW.loop (fun j : Nat => [(0, .av (.sl false 1 ((M.take (2 : Int).toNat).map rwS))), (4, .av (.pt true [.int x.1, .int x.2])), (6, .av (.int (lo))), (9, .av (.sl true 1 (LL.map rwS))), (12, .av (.sl true 1 ((negR (r.take j)).map .int))), (50, .av (.sl false 1 ((M.take (2 : Int).toNat).map rwS))), (51, .av (.int ((M.take (2 : Int).toNat).length))), (52, .av (.int (k))), (56, .av (.sl false 1 ((r).map .int))), (57, .av (.int (r.length))), (58, .av (.int (j)))]) (fun j => j ≤ r.length) (fun j => r.length - j) (0) ?_ (by (repeat' (first | exact trivial | rfl | refine And.intro ?_ ?_ | exact int_congr (by omega) | exact ints_congr (by first | assumption | exact Eq.symm (by assumption)) | exact int_congr (by assumption) | exact bool_congr (by first | assumption | exact Eq.symm (by assumption)) | exact map_congr' (by first | assumption | exact Eq.symm (by assumption))))) ?_
    · exact Nat.zero_le _
    intro j hj
    by_cases hjl : j < r.length
    · have hy : r[j]? = some r[j] := List.getElem?_eq_getElem hjl
      have hnt := negR_take hjl
      have hnl : (negR (r.take j)).length ≤ 6 := by rw [negR_len, List.length_take]; omega
      have hrg := hrr _ (List.getElem_mem hjl)
      generalize negR (r.take j) = n0 at *
      generalize r[j] = z at *
      (repeat' (first | ((with_reducible apply J.step); rfl; exact FM.st) | ((with_reducible apply J.eff); rfl; exact FM.ef) | ((with_reducible apply J.eqNil); rfl; rfl; rfl; rfl; intro bnil hbnil) | (refine J.takeRow rfl rfl AV.noConfusion rfl (by first | assumption | (simp only [List.length_map]; omega)) ?_) | with_reducible refine J.nil ?_ | ((with_reducible apply J.skipV); rfl; rfl; rfl) | ((with_reducible apply J.skipU); rfl; rfl) | with_reducible refine CW.seq ?_ | with_reducible refine CW.block ?_ | ((with_reducible refine CW.reg ?_ ?_); rfl) | ((with_reducible refine CW.regQN ?_ ?_ ?_ ?_); rfl; kernel_rfl; rfl) | ((with_reducible refine CW.regS 1 ?_ ?_ ?_); kernel_rfl; rfl; simp only [List.length_cons, List.length_nil, Nat.reduceAdd, Nat.reduceSub, List.take_succ_cons, List.take_zero, List.drop_succ_cons, List.drop_zero]) | with_reducible refine CW.skip ?_ | with_reducible refine CW.ret ?_ | with_reducible refine CW.exit ?_ | refine CW.condT rfl ?_ | refine CW.condF rfl ?_ | (refine CW.condD rfl (fun _ => ?_) (fun _ => ?_) <;> (try (exfalso; omega))) | (refine CW.cond rfl (fun _ => ?_) (fun _ => ?_) <;> (try (exfalso; simp only [decide_eq_true_eq, decide_eq_false_iff_not, Bool.and_eq_true, Bool.or_eq_true] at *; omega))) | with_reducible refine thenQ_n ?_ | with_reducible refine blockQ_n ?_ | ((with_reducible refine blockQ_e ?_ ?_); rfl) | ((with_reducible refine blockQ_x ?_ ?_); rfl) | with_reducible refine blockQ_r ?_ | with_reducible refine thenQ_x ?_ | with_reducible refine thenQ_r ?_ | ((fail_if_success ((with_reducible apply J.step); rfl)); (fail_if_success ((with_reducible apply J.skipU); rfl)); refine J.splitG rfl rfl (fun _ => ?_) (fun _ => ?_) <;> (try (exfalso; omega))) | ((fail_if_success ((with_reducible apply J.step); rfl)); (fail_if_success ((with_reducible apply J.skipU); rfl)); refine J.splitB rfl rfl (fun _ => ?_) (fun _ => ?_))))
      all_goals first | (exfalso; omega) | skip
      refine ⟨j+1, ?_, by first | omega | (simp only; omega), by (repeat' (first | exact trivial | rfl | refine And.intro ?_ ?_ | exact int_congr (by omega) | exact ints_congr (by first | assumption | exact Eq.symm (by assumption)) | exact int_congr (by assumption) | exact bool_congr (by first | assumption | exact Eq.symm (by assumption)) | exact map_congr' (by first | assumption | exact Eq.symm (by assumption)) | exact ints_congr hnt.symm))⟩
      omega
    · obtain rfl : j = r.length := by omega
      rw [List.take_length]
      refine CW.freeze 12 rfl sh_int rfl ?_
      (repeat' (first | ((with_reducible apply J.step); rfl; exact FM.st) | ((with_reducible apply J.eff); rfl; exact FM.ef) | ((with_reducible apply J.eqNil); rfl; rfl; rfl; rfl; intro bnil hbnil) | (refine J.takeRow rfl rfl AV.noConfusion rfl (by first | assumption | (simp only [List.length_map]; omega)) ?_) | with_reducible refine J.nil ?_ | ((with_reducible apply J.skipV); rfl; rfl; rfl) | ((with_reducible apply J.skipU); rfl; rfl) | with_reducible refine CW.seq ?_ | with_reducible refine CW.block ?_ | ((with_reducible refine CW.reg ?_ ?_); rfl) | ((with_reducible refine CW.regQN ?_ ?_ ?_ ?_); rfl; kernel_rfl; rfl) | ((with_reducible refine CW.regS 1 ?_ ?_ ?_); kernel_rfl; rfl; simp only [List.length_cons, List.length_nil, Nat.reduceAdd, Nat.reduceSub, List.take_succ_cons, List.take_zero, List.drop_succ_cons, List.drop_zero]) | with_reducible refine CW.skip ?_ | with_reducible refine CW.ret ?_ | with_reducible refine CW.exit ?_ | refine CW.condT rfl ?_ | refine CW.condF rfl ?_ | (refine CW.condD rfl (fun _ => ?_) (fun _ => ?_) <;> (try (exfalso; omega))) | (refine CW.cond rfl (fun _ => ?_) (fun _ => ?_) <;> (try (exfalso; simp only [decide_eq_true_eq, decide_eq_false_iff_not, Bool.and_eq_true, Bool.or_eq_true] at *; omega))) | with_reducible refine thenQ_n ?_ | with_reducible refine blockQ_n ?_ | ((with_reducible refine blockQ_e ?_ ?_); rfl) | ((with_reducible refine blockQ_x ?_ ?_); rfl) | with_reducible refine blockQ_r ?_ | with_reducible refine thenQ_x ?_ | with_reducible refine thenQ_r ?_ | ((fail_if_success ((with_reducible apply J.step); rfl)); (fail_if_success ((with_reducible apply J.skipU); rfl)); refine J.splitG rfl rfl (fun _ => ?_) (fun _ => ?_) <;> (try (exfalso; omega))) | ((fail_if_success ((with_reducible apply J.step); rfl)); (fail_if_success ((with_reducible apply J.skipU); rfl)); refine J.splitB rfl rfl (fun _ => ?_) (fun _ => ?_))))
      all_goals first | (exfalso; omega) | skip
      refine ⟨k+1, ?_, by first | omega | (simp only; omega), by (repeat' (first | exact trivial | rfl | refine And.intro ?_ ?_ | exact int_congr (by omega) | exact ints_congr (by first | assumption | exact Eq.symm (by assumption)) | exact int_congr (by assumption) | exact bool_congr (by first | assumption | exact Eq.symm (by assumption)) | exact map_congr' (by first | assumption | exact Eq.symm (by assumption)) | exact map_congr' hts.symm))⟩
      omega
  · obtain rfl : k = (M.take (2 : Int).toNat).length := by omega
    rw [List.take_length]
    (repeat' (first | ((with_reducible apply J.step); rfl; exact FM.st) | ((with_reducible apply J.eff); rfl; exact FM.ef) | (refine J.callP hRe rfl rfl (by (repeat' (first | exact ArgsOk.nil | apply ArgsOk.cons | exact ArgOk.pl rfl rfl | exact ArgOk.br rfl AV.noConfusion (by first | rfl | exact sh_int | exact sh_rows | exact sh_rowsO | exact sh_box | exact sh_map (fun _ => rfl))))) (fun _ => hns) ?_) | ((with_reducible apply J.eqNil); rfl; rfl; rfl; rfl; intro bnil hbnil) | (refine J.takeRow rfl rfl AV.noConfusion rfl (by first | assumption | (simp only [List.length_map]; omega)) ?_) | with_reducible refine J.nil ?_ | ((with_reducible apply J.skipV); rfl; rfl; rfl) | ((with_reducible apply J.skipU); rfl; rfl) | with_reducible refine CW.seq ?_ | with_reducible refine CW.block ?_ | ((with_reducible refine CW.reg ?_ ?_); rfl) | ((with_reducible refine CW.regQN ?_ ?_ ?_ ?_); rfl; kernel_rfl; rfl) | ((with_reducible refine CW.regS 1 ?_ ?_ ?_); kernel_rfl; rfl; simp only [List.length_cons, List.length_nil, Nat.reduceAdd, Nat.reduceSub, List.take_succ_cons, List.take_zero, List.drop_succ_cons, List.drop_zero]) | with_reducible refine CW.skip ?_ | with_reducible refine CW.ret ?_ | with_reducible refine CW.exit ?_ | refine CW.condT rfl ?_ | refine CW.condF rfl ?_ | (refine CW.condD rfl (fun _ => ?_) (fun _ => ?_) <;> (try (exfalso; omega))) | (refine CW.cond rfl (fun _ => ?_) (fun _ => ?_) <;> (try (exfalso; simp only [decide_eq_true_eq, decide_eq_false_iff_not, Bool.and_eq_true, Bool.or_eq_true] at *; omega))) | with_reducible refine thenQ_n ?_ | with_reducible refine blockQ_n ?_ | ((with_reducible refine blockQ_e ?_ ?_); rfl) | ((with_reducible refine blockQ_x ?_ ?_); rfl) | with_reducible refine blockQ_r ?_ | with_reducible refine thenQ_x ?_ | with_reducible refine thenQ_r ?_ | ((fail_if_success ((with_reducible apply J.step); rfl)); (fail_if_success ((with_reducible apply J.skipU); rfl)); refine J.splitG rfl rfl (fun _ => ?_) (fun _ => ?_) <;> (try (exfalso; omega))) | ((fail_if_success ((with_reducible apply J.step); rfl)); (fail_if_success ((with_reducible apply J.skipU); rfl)); refine J.splitB rfl rfl (fun _ => ?_) (fun _ => ?_))))
    all_goals first | (exfalso; omega) | exact .mk rfl (congrArg AV.bool (by simp; exact hlaw.trans List.length_eq_zero_iff)) rfl
theorem topVerr_all (M : List (List Int)) (hM : M.length ≤ 9223372036854775807) (h2 : ¬ 2 < M.length) (e : Int) (he : e ≠ 0)
    (hS : FnSpec Sy.P 17 [.sl false 1 ((M).map rwS)] [.sl false 1 ((M).map rwS)] (.tup [.agg [.int 0, .int 0], .agg [.int 0, .int 0], .int e]))
    (hBo : ∃ a b f : Int, FnSpec Sy.P 18 [.sl false 1 ((M).map rwS)] [.sl false 1 ((M).map rwS)] (.tup [.int a, .int b, .int f])) : FnSpec Sy.P 4 [.sl false 1 ((M).map rwS)] [.sl false 1 ((M).map rwS)] (.bool true) := by
  obtain ⟨a, b, f, hBo⟩ := hBo
  have hWk := works_spec
  refine FnSpec.enter (S := Sy) 0 Try.func4 rfl rfl rfl Try.ntmps4 rfl rfl rfl rfl fun v0 => ?_
  (repeat' (first | ((with_reducible apply J.step); rfl; (exact s_eqS2 Try.underlying35 rfl rfl rfl rfl (by decide) (by decide) stood35v Try.underlying3 guard35v rfl rfl)) | ((with_reducible apply J.step); rfl; exact FM.st) | ((with_reducible apply J.eff); rfl; exact FM.ef) | ((with_reducible apply J.callP (hS)); rfl; rfl; (repeat' (first | exact ArgsOk.nil | apply ArgsOk.cons | exact ArgOk.pl rfl rfl | exact ArgOk.br rfl AV.noConfusion (by first | rfl | exact sh_int | exact sh_rows | exact sh_rowsO | exact sh_box | exact sh_map (fun _ => rfl)))); (first | rfl | exact (fun h => Bool.noConfusion h) | exact (fun _ => noSh_ints) | exact (fun _ => noSh_strs) | exact (fun _ => NoSh.str) | exact (fun _ => noSh_rows) | exact (fun _ => NoSh.int) | exact (fun _ => NoSh.bool) | exact (fun _ => NoSh.nil) | exact (fun _ => noSh_tup2 (by first | exact noSh_ints | exact noSh_strs | exact NoSh.str | exact noSh_rows | exact NoSh.nil | exact NoSh.int | exact NoSh.bool) (by first | exact noSh_ints | exact noSh_strs | exact NoSh.str | exact NoSh.int | exact NoSh.bool | exact noSh_rows | exact NoSh.nil)) | exact (fun _ => noSh_tup3 (by first | exact noSh_ints | exact noSh_strs | exact NoSh.str | exact noSh_rows | exact NoSh.nil | exact NoSh.int | exact NoSh.bool) (by first | exact noSh_ints | exact noSh_strs | exact NoSh.str | exact NoSh.int | exact NoSh.bool | exact noSh_rows | exact NoSh.nil) (by first | exact noSh_ints | exact noSh_strs | exact NoSh.str | exact NoSh.int | exact NoSh.bool | exact noSh_rows | exact NoSh.nil)))) | ((with_reducible apply J.callPQ (hS)); rfl; rfl; (repeat' (first | exact ArgsOk.nil | apply ArgsOk.cons | exact ArgOk.pl rfl rfl | exact ArgOk.br rfl AV.noConfusion (by first | rfl | exact sh_int | exact sh_rows | exact sh_rowsO | exact sh_box | exact sh_map (fun _ => rfl)))); rfl) | ((with_reducible apply J.callP (hBo)); rfl; rfl; (repeat' (first | exact ArgsOk.nil | apply ArgsOk.cons | exact ArgOk.pl rfl rfl | exact ArgOk.br rfl AV.noConfusion (by first | rfl | exact sh_int | exact sh_rows | exact sh_rowsO | exact sh_box | exact sh_map (fun _ => rfl)))); (first | rfl | exact (fun h => Bool.noConfusion h) | exact (fun _ => noSh_ints) | exact (fun _ => noSh_strs) | exact (fun _ => NoSh.str) | exact (fun _ => noSh_rows) | exact (fun _ => NoSh.int) | exact (fun _ => NoSh.bool) | exact (fun _ => NoSh.nil) | exact (fun _ => noSh_tup2 (by first | exact noSh_ints | exact noSh_strs | exact NoSh.str | exact noSh_rows | exact NoSh.nil | exact NoSh.int | exact NoSh.bool) (by first | exact noSh_ints | exact noSh_strs | exact NoSh.str | exact NoSh.int | exact NoSh.bool | exact noSh_rows | exact NoSh.nil)) | exact (fun _ => noSh_tup3 (by first | exact noSh_ints | exact noSh_strs | exact NoSh.str | exact noSh_rows | exact NoSh.nil | exact NoSh.int | exact NoSh.bool) (by first | exact noSh_ints | exact noSh_strs | exact NoSh.str | exact NoSh.int | exact NoSh.bool | exact noSh_rows | exact NoSh.nil) (by first | exact noSh_ints | exact noSh_strs | exact NoSh.str | exact NoSh.int | exact NoSh.bool | exact noSh_rows | exact NoSh.nil)))) | ((with_reducible apply J.callPQ (hBo)); rfl; rfl; (repeat' (first | exact ArgsOk.nil | apply ArgsOk.cons | exact ArgOk.pl rfl rfl | exact ArgOk.br rfl AV.noConfusion (by first | rfl | exact sh_int | exact sh_rows | exact sh_rowsO | exact sh_box | exact sh_map (fun _ => rfl)))); rfl) | ((with_reducible apply J.callP (hWk)); rfl; rfl; (repeat' (first | exact ArgsOk.nil | apply ArgsOk.cons | exact ArgOk.pl rfl rfl | exact ArgOk.br rfl AV.noConfusion (by first | rfl | exact sh_int | exact sh_rows | exact sh_rowsO | exact sh_box | exact sh_map (fun _ => rfl)))); (first | rfl | exact (fun h => Bool.noConfusion h) | exact (fun _ => noSh_ints) | exact (fun _ => noSh_strs) | exact (fun _ => NoSh.str) | exact (fun _ => noSh_rows) | exact (fun _ => NoSh.int) | exact (fun _ => NoSh.bool) | exact (fun _ => NoSh.nil) | exact (fun _ => noSh_tup2 (by first | exact noSh_ints | exact noSh_strs | exact NoSh.str | exact noSh_rows | exact NoSh.nil | exact NoSh.int | exact NoSh.bool) (by first | exact noSh_ints | exact noSh_strs | exact NoSh.str | exact NoSh.int | exact NoSh.bool | exact noSh_rows | exact NoSh.nil)) | exact (fun _ => noSh_tup3 (by first | exact noSh_ints | exact noSh_strs | exact NoSh.str | exact noSh_rows | exact NoSh.nil | exact NoSh.int | exact NoSh.bool) (by first | exact noSh_ints | exact noSh_strs | exact NoSh.str | exact NoSh.int | exact NoSh.bool | exact noSh_rows | exact NoSh.nil) (by first | exact noSh_ints | exact noSh_strs | exact NoSh.str | exact NoSh.int | exact NoSh.bool | exact noSh_rows | exact NoSh.nil)))) | ((with_reducible apply J.callPQ (hWk)); rfl; rfl; (repeat' (first | exact ArgsOk.nil | apply ArgsOk.cons | exact ArgOk.pl rfl rfl | exact ArgOk.br rfl AV.noConfusion (by first | rfl | exact sh_int | exact sh_rows | exact sh_rowsO | exact sh_box | exact sh_map (fun _ => rfl)))); rfl) | ((with_reducible apply J.eqNil); rfl; rfl; rfl; rfl; intro bnil hbnil) | (refine J.takeRow rfl rfl AV.noConfusion rfl (by first | assumption | (simp only [List.length_map]; omega)) ?_) | with_reducible refine J.nil ?_ | ((with_reducible apply J.skipV); rfl; rfl; rfl) | ((with_reducible apply J.skipU); rfl; rfl) | with_reducible refine CW.seq ?_ | with_reducible refine CW.block ?_ | ((with_reducible refine CW.reg ?_ ?_); rfl) | ((with_reducible refine CW.regQN ?_ ?_ ?_ ?_); rfl; kernel_rfl; rfl) | ((with_reducible refine CW.regS 1 ?_ ?_ ?_); kernel_rfl; rfl; simp only [List.length_cons, List.length_nil, Nat.reduceAdd, Nat.reduceSub, List.take_succ_cons, List.take_zero, List.drop_succ_cons, List.drop_zero]) | with_reducible refine CW.skip ?_ | with_reducible refine CW.ret ?_ | with_reducible refine CW.exit ?_ | refine CW.condT rfl ?_ | refine CW.condF rfl ?_ | (refine CW.condD rfl (fun _ => ?_) (fun _ => ?_) <;> (try (exfalso; omega))) | (refine CW.cond rfl (fun _ => ?_) (fun _ => ?_) <;> (try (exfalso; simp only [decide_eq_true_eq, decide_eq_false_iff_not, Bool.and_eq_true, Bool.or_eq_true] at *; omega))) | with_reducible refine thenQ_n ?_ | with_reducible refine blockQ_n ?_ | ((with_reducible refine blockQ_e ?_ ?_); rfl) | ((with_reducible refine blockQ_x ?_ ?_); rfl) | with_reducible refine blockQ_r ?_ | with_reducible refine thenQ_x ?_ | with_reducible refine thenQ_r ?_ | ((fail_if_success ((with_reducible apply J.step); rfl)); (fail_if_success ((with_reducible apply J.skipU); rfl)); refine J.splitG rfl rfl (fun _ => ?_) (fun _ => ?_) <;> (try (exfalso; omega))) | ((fail_if_success ((with_reducible apply J.step); rfl)); (fail_if_success ((with_reducible apply J.skipU); rfl)); refine J.splitB rfl rfl (fun _ => ?_) (fun _ => ?_))))
  all_goals first | (exfalso; omega) | exact .mk rfl rfl rfl | exact .mk rfl (congrArg AV.bool (by simp)) rfl
theorem topVok_all (M : List (List Int)) (hM : M.length ≤ 9223372036854775807) (h2 : ¬ 2 < M.length) (g : Nat) (A B : List Int) (hT : M = [A, B]) (h : Two g A B) (P : PayOk g [A, B])
    (hC : FnSpec Sy.P 51 [.sl false 1 (([A, B]).map rwS)] [.sl false 1 (([A, B]).map rwS)] (.int 0)) : FnSpec Sy.P 4 [.sl false 1 ((M).map rwS)] [.sl false 1 ((M).map rwS)] (.bool true) := by
  have hWk := works_spec
  have hBo := bounds_spec g [A, B] P hC
  obtain ⟨c, hc⟩ : ∃ c, outr A B (fun f => lst A B f g) g = c := ⟨_, rfl⟩
  have hS := solve_spec g A B h hC c hc
  have hlaw := value_law h P c hc
  have Pn := payE_neg P
  have hCe := equilCheck_spec [A, B] [negR A, negR B] (by simp) (by simp) (fun r hx => by rw [P.len r hx]; have := P.g6; omega) (fun r hx => by rw [Pn.len r hx]; have := P.g6; omega)
  have hge : gErr [A, B] [negR A, negR B] = 0 := by
    unfold gErr
    rw [if_neg (by rw [P.zero]; simp), if_neg (by rw [Pn.zero]; simp), if_neg]
    simp [negR_len]
  rw [hge] at hCe
  have hRe := rest_spec 2 g [A, B] [negR A, negR B] ⟨P, Pn, rfl, rfl⟩ hCe
  have hok : okF c := hc ▸ outr_ok h g
  have hlb := lowT_bnd (p := lst A B c g) (m := 4000000) hok.2.2.1 (lst_bnd h hok g) (by have := hok.2.2.2; omega)
  have hlo2 : lowOf [A, B] = max (lmin 1000 A) (lmin 1000 B) := lowOf_two (fun x hx => (P.range A (List.mem_cons_self ..) x hx).1) (fun x hx => (P.range B (List.mem_cons_of_mem _ (List.mem_cons_self ..)) x hx).1)
  obtain ⟨⟨ka, _, ea⟩, _⟩ := lmin_least h.la h.g1 h.ra
  obtain ⟨⟨kb, _, eb⟩, _⟩ := lmin_least h.lb h.g1 h.rb
  have hra := h.ra ka
  have hrb := h.rb kb
  have hm := mulB (a := 1000) (b := 4000000) (x := lowOf [A, B]) (y := (lowT (lst A B c g) c.2).2) (by omega) ⟨by omega, hlb.2.2⟩ (by decide)
  have hng : ([A, B] : List (List Int)).map negR = [negR A, negR B] := rfl
  have hrow : ∀ r ∈ [A, B], r.length = g := P.len
  have hrow2 : ∀ r ∈ [A, B], ∀ x ∈ r, -1000 ≤ x ∧ x ≤ 1000 := P.range
  have hg6 := P.g6
  have hTl : ([A, B] : List (List Int)).length = 2 := rfl
  rw [← hng] at hRe hlaw
  rw [← hT] at hS hlaw hRe hm hrow hrow2 hTl hBo
  clear hC hCe hge Pn hlo2 P hok hc h
  generalize lst A B c g = v at *
  generalize lowT v c.2 = x at *
  generalize lowT c.1 c.2 = y at *
  generalize hlow : lowOf (M) = lo at *
  generalize highOf g (M) = hi at *
  generalize hpt : ptA (rS (M) ((M).map negR)) g 2 = pt at *
  clear hlow hpt hT
  have hns : NoSh (.tup [.sl true 2 (pt.map pt2), .int 0]) := .tup fun z hz => by
    simp only [List.mem_cons, List.not_mem_nil, or_false] at hz
    rcases hz with rfl | rfl
    · exact .sl fun z hz => by obtain ⟨q, _, rfl⟩ := List.mem_map.1 hz; exact noSh_aggL rfl
    · exact .int
  refine FnSpec.enter (S := Sy) 0 Try.func4 rfl rfl rfl Try.ntmps4 rfl rfl rfl rfl fun v0 => ?_
  (repeat' (first | ((with_reducible apply J.step); rfl; (exact s_eqS2 Try.underlying35 rfl rfl rfl rfl (by decide) (by decide) stood35v Try.underlying3 guard35v rfl rfl)) | ((with_reducible apply J.step); rfl; exact FM.st) | ((with_reducible apply J.eff); rfl; exact FM.ef) | ((with_reducible apply J.callP (hS)); rfl; rfl; (repeat' (first | exact ArgsOk.nil | apply ArgsOk.cons | exact ArgOk.pl rfl rfl | exact ArgOk.br rfl AV.noConfusion (by first | rfl | exact sh_int | exact sh_rows | exact sh_rowsO | exact sh_box | exact sh_map (fun _ => rfl)))); (first | rfl | exact (fun h => Bool.noConfusion h) | exact (fun _ => noSh_ints) | exact (fun _ => noSh_strs) | exact (fun _ => NoSh.str) | exact (fun _ => noSh_rows) | exact (fun _ => NoSh.int) | exact (fun _ => NoSh.bool) | exact (fun _ => NoSh.nil) | exact (fun _ => noSh_tup2 (by first | exact noSh_ints | exact noSh_strs | exact NoSh.str | exact noSh_rows | exact NoSh.nil | exact NoSh.int | exact NoSh.bool) (by first | exact noSh_ints | exact noSh_strs | exact NoSh.str | exact NoSh.int | exact NoSh.bool | exact noSh_rows | exact NoSh.nil)) | exact (fun _ => noSh_tup3 (by first | exact noSh_ints | exact noSh_strs | exact NoSh.str | exact noSh_rows | exact NoSh.nil | exact NoSh.int | exact NoSh.bool) (by first | exact noSh_ints | exact noSh_strs | exact NoSh.str | exact NoSh.int | exact NoSh.bool | exact noSh_rows | exact NoSh.nil) (by first | exact noSh_ints | exact noSh_strs | exact NoSh.str | exact NoSh.int | exact NoSh.bool | exact noSh_rows | exact NoSh.nil)))) | ((with_reducible apply J.callPQ (hS)); rfl; rfl; (repeat' (first | exact ArgsOk.nil | apply ArgsOk.cons | exact ArgOk.pl rfl rfl | exact ArgOk.br rfl AV.noConfusion (by first | rfl | exact sh_int | exact sh_rows | exact sh_rowsO | exact sh_box | exact sh_map (fun _ => rfl)))); rfl) | ((with_reducible apply J.callP (hBo)); rfl; rfl; (repeat' (first | exact ArgsOk.nil | apply ArgsOk.cons | exact ArgOk.pl rfl rfl | exact ArgOk.br rfl AV.noConfusion (by first | rfl | exact sh_int | exact sh_rows | exact sh_rowsO | exact sh_box | exact sh_map (fun _ => rfl)))); (first | rfl | exact (fun h => Bool.noConfusion h) | exact (fun _ => noSh_ints) | exact (fun _ => noSh_strs) | exact (fun _ => NoSh.str) | exact (fun _ => noSh_rows) | exact (fun _ => NoSh.int) | exact (fun _ => NoSh.bool) | exact (fun _ => NoSh.nil) | exact (fun _ => noSh_tup2 (by first | exact noSh_ints | exact noSh_strs | exact NoSh.str | exact noSh_rows | exact NoSh.nil | exact NoSh.int | exact NoSh.bool) (by first | exact noSh_ints | exact noSh_strs | exact NoSh.str | exact NoSh.int | exact NoSh.bool | exact noSh_rows | exact NoSh.nil)) | exact (fun _ => noSh_tup3 (by first | exact noSh_ints | exact noSh_strs | exact NoSh.str | exact noSh_rows | exact NoSh.nil | exact NoSh.int | exact NoSh.bool) (by first | exact noSh_ints | exact noSh_strs | exact NoSh.str | exact NoSh.int | exact NoSh.bool | exact noSh_rows | exact NoSh.nil) (by first | exact noSh_ints | exact noSh_strs | exact NoSh.str | exact NoSh.int | exact NoSh.bool | exact noSh_rows | exact NoSh.nil)))) | ((with_reducible apply J.callPQ (hBo)); rfl; rfl; (repeat' (first | exact ArgsOk.nil | apply ArgsOk.cons | exact ArgOk.pl rfl rfl | exact ArgOk.br rfl AV.noConfusion (by first | rfl | exact sh_int | exact sh_rows | exact sh_rowsO | exact sh_box | exact sh_map (fun _ => rfl)))); rfl) | ((with_reducible apply J.callP (hWk)); rfl; rfl; (repeat' (first | exact ArgsOk.nil | apply ArgsOk.cons | exact ArgOk.pl rfl rfl | exact ArgOk.br rfl AV.noConfusion (by first | rfl | exact sh_int | exact sh_rows | exact sh_rowsO | exact sh_box | exact sh_map (fun _ => rfl)))); (first | rfl | exact (fun h => Bool.noConfusion h) | exact (fun _ => noSh_ints) | exact (fun _ => noSh_strs) | exact (fun _ => NoSh.str) | exact (fun _ => noSh_rows) | exact (fun _ => NoSh.int) | exact (fun _ => NoSh.bool) | exact (fun _ => NoSh.nil) | exact (fun _ => noSh_tup2 (by first | exact noSh_ints | exact noSh_strs | exact NoSh.str | exact noSh_rows | exact NoSh.nil | exact NoSh.int | exact NoSh.bool) (by first | exact noSh_ints | exact noSh_strs | exact NoSh.str | exact NoSh.int | exact NoSh.bool | exact noSh_rows | exact NoSh.nil)) | exact (fun _ => noSh_tup3 (by first | exact noSh_ints | exact noSh_strs | exact NoSh.str | exact noSh_rows | exact NoSh.nil | exact NoSh.int | exact NoSh.bool) (by first | exact noSh_ints | exact noSh_strs | exact NoSh.str | exact NoSh.int | exact NoSh.bool | exact noSh_rows | exact NoSh.nil) (by first | exact noSh_ints | exact noSh_strs | exact NoSh.str | exact NoSh.int | exact NoSh.bool | exact noSh_rows | exact NoSh.nil)))) | ((with_reducible apply J.callPQ (hWk)); rfl; rfl; (repeat' (first | exact ArgsOk.nil | apply ArgsOk.cons | exact ArgOk.pl rfl rfl | exact ArgOk.br rfl AV.noConfusion (by first | rfl | exact sh_int | exact sh_rows | exact sh_rowsO | exact sh_box | exact sh_map (fun _ => rfl)))); rfl) | ((with_reducible apply J.eqNil); rfl; rfl; rfl; rfl; intro bnil hbnil) | (refine J.takeRow rfl rfl AV.noConfusion rfl (by first | assumption | (simp only [List.length_map]; omega)) ?_) | with_reducible refine J.nil ?_ | ((with_reducible apply J.skipV); rfl; rfl; rfl) | ((with_reducible apply J.skipU); rfl; rfl) | with_reducible refine CW.seq ?_ | with_reducible refine CW.block ?_ | ((with_reducible refine CW.reg ?_ ?_); rfl) | ((with_reducible refine CW.regQN ?_ ?_ ?_ ?_); rfl; kernel_rfl; rfl) | ((with_reducible refine CW.regS 1 ?_ ?_ ?_); kernel_rfl; rfl; simp only [List.length_cons, List.length_nil, Nat.reduceAdd, Nat.reduceSub, List.take_succ_cons, List.take_zero, List.drop_succ_cons, List.drop_zero]) | with_reducible refine CW.skip ?_ | with_reducible refine CW.ret ?_ | with_reducible refine CW.exit ?_ | refine CW.condT rfl ?_ | refine CW.condF rfl ?_ | (refine CW.condD rfl (fun _ => ?_) (fun _ => ?_) <;> (try (exfalso; omega))) | (refine CW.cond rfl (fun _ => ?_) (fun _ => ?_) <;> (try (exfalso; simp only [decide_eq_true_eq, decide_eq_false_iff_not, Bool.and_eq_true, Bool.or_eq_true] at *; omega))) | with_reducible refine thenQ_n ?_ | with_reducible refine blockQ_n ?_ | ((with_reducible refine blockQ_e ?_ ?_); rfl) | ((with_reducible refine blockQ_x ?_ ?_); rfl) | with_reducible refine blockQ_r ?_ | with_reducible refine thenQ_x ?_ | with_reducible refine thenQ_r ?_ | ((fail_if_success ((with_reducible apply J.step); rfl)); (fail_if_success ((with_reducible apply J.skipU); rfl)); refine J.splitG rfl rfl (fun _ => ?_) (fun _ => ?_) <;> (try (exfalso; omega))) | ((fail_if_success ((with_reducible apply J.step); rfl)); (fail_if_success ((with_reducible apply J.skipU); rfl)); refine J.splitB rfl rfl (fun _ => ?_) (fun _ => ?_))))
  all_goals first | (exfalso; omega) | skip
  refine CW.own 9 1 rfl ?_
  refine CW.loop (fun k : Nat => [(0, .av (.sl false 1 ((M).map rwS))), (4, .av (.pt true [.int x.1, .int x.2])), (6, .av (.int (lo))), (9, .av (.sl true 1 ((((M).take k).map negR).map rwS))), (50, .av (.sl false 1 ((M).map rwS))), (51, .av (.int ((M).length))), (52, .av (.int (k)))]) (fun k => k ≤ (M).length) (fun k => (M).length - k) (0) ?_ (by (repeat' (first | exact trivial | rfl | refine And.intro ?_ ?_ | exact int_congr (by omega) | exact ints_congr (by first | assumption | exact Eq.symm (by assumption)) | exact int_congr (by assumption) | exact bool_congr (by first | assumption | exact Eq.symm (by assumption)) | exact map_congr' (by first | assumption | exact Eq.symm (by assumption))))) ?_
  · exact Nat.zero_le _
  intro k hk
  have htl : (((M).take k).map negR).length ≤ 2 := by rw [List.length_map, List.length_take]; omega
  by_cases hkl : k < (M).length
  · have hx : (M)[k]? = some (M)[k] := List.getElem?_eq_getElem hkl
    have hts : ((M).take (k + 1)).map negR = ((M).take k).map negR ++ [negR (M)[k]] := by rw [List.take_succ_eq_append_getElem hkl, List.map_append]; rfl
    have hrl := hrow _ (List.getElem_mem hkl)
    have hrr := hrow2 _ (List.getElem_mem hkl)
    generalize hLL : ((M).take k).map negR = LL at *
    generalize (M)[k] = r at *
    (repeat' (first | ((with_reducible apply J.step); rfl; exact FM.st) | ((with_reducible apply J.eff); rfl; exact FM.ef) | ((with_reducible apply J.eqNil); rfl; rfl; rfl; rfl; intro bnil hbnil) | (refine J.takeRow rfl rfl AV.noConfusion rfl (by first | assumption | (simp only [List.length_map]; omega)) ?_) | with_reducible refine J.nil ?_ | ((with_reducible apply J.skipV); rfl; rfl; rfl) | ((with_reducible apply J.skipU); rfl; rfl) | with_reducible refine CW.seq ?_ | with_reducible refine CW.block ?_ | ((with_reducible refine CW.reg ?_ ?_); rfl) | ((with_reducible refine CW.regQN ?_ ?_ ?_ ?_); rfl; kernel_rfl; rfl) | ((with_reducible refine CW.regS 1 ?_ ?_ ?_); kernel_rfl; rfl; simp only [List.length_cons, List.length_nil, Nat.reduceAdd, Nat.reduceSub, List.take_succ_cons, List.take_zero, List.drop_succ_cons, List.drop_zero]) | with_reducible refine CW.skip ?_ | with_reducible refine CW.ret ?_ | with_reducible refine CW.exit ?_ | refine CW.condT rfl ?_ | refine CW.condF rfl ?_ | (refine CW.condD rfl (fun _ => ?_) (fun _ => ?_) <;> (try (exfalso; omega))) | (refine CW.cond rfl (fun _ => ?_) (fun _ => ?_) <;> (try (exfalso; simp only [decide_eq_true_eq, decide_eq_false_iff_not, Bool.and_eq_true, Bool.or_eq_true] at *; omega))) | with_reducible refine thenQ_n ?_ | with_reducible refine blockQ_n ?_ | ((with_reducible refine blockQ_e ?_ ?_); rfl) | ((with_reducible refine blockQ_x ?_ ?_); rfl) | with_reducible refine blockQ_r ?_ | with_reducible refine thenQ_x ?_ | with_reducible refine thenQ_r ?_ | ((fail_if_success ((with_reducible apply J.step); rfl)); (fail_if_success ((with_reducible apply J.skipU); rfl)); refine J.splitG rfl rfl (fun _ => ?_) (fun _ => ?_) <;> (try (exfalso; omega))) | ((fail_if_success ((with_reducible apply J.step); rfl)); (fail_if_success ((with_reducible apply J.skipU); rfl)); refine J.splitB rfl rfl (fun _ => ?_) (fun _ => ?_))))
    all_goals first | (exfalso; omega) | skip
    refine CW.own 12 1 rfl ?_
    refine CW.loop (fun j : Nat => [(0, .av (.sl false 1 ((M).map rwS))), (4, .av (.pt true [.int x.1, .int x.2])), (6, .av (.int (lo))), (9, .av (.sl true 1 (LL.map rwS))), (12, .av (.sl true 1 ((negR (r.take j)).map .int))), (50, .av (.sl false 1 ((M).map rwS))), (51, .av (.int ((M).length))), (52, .av (.int (k))), (56, .av (.sl false 1 ((r).map .int))), (57, .av (.int (r.length))), (58, .av (.int (j)))]) (fun j => j ≤ r.length) (fun j => r.length - j) (0) ?_ (by (repeat' (first | exact trivial | rfl | refine And.intro ?_ ?_ | exact int_congr (by omega) | exact ints_congr (by first | assumption | exact Eq.symm (by assumption)) | exact int_congr (by assumption) | exact bool_congr (by first | assumption | exact Eq.symm (by assumption)) | exact map_congr' (by first | assumption | exact Eq.symm (by assumption))))) ?_
    · exact Nat.zero_le _
    intro j hj
    by_cases hjl : j < r.length
    · have hy : r[j]? = some r[j] := List.getElem?_eq_getElem hjl
      have hnt := negR_take hjl
      have hnl : (negR (r.take j)).length ≤ 6 := by rw [negR_len, List.length_take]; omega
      have hrg := hrr _ (List.getElem_mem hjl)
      generalize negR (r.take j) = n0 at *
      generalize r[j] = z at *
      (repeat' (first | ((with_reducible apply J.step); rfl; exact FM.st) | ((with_reducible apply J.eff); rfl; exact FM.ef) | ((with_reducible apply J.eqNil); rfl; rfl; rfl; rfl; intro bnil hbnil) | (refine J.takeRow rfl rfl AV.noConfusion rfl (by first | assumption | (simp only [List.length_map]; omega)) ?_) | with_reducible refine J.nil ?_ | ((with_reducible apply J.skipV); rfl; rfl; rfl) | ((with_reducible apply J.skipU); rfl; rfl) | with_reducible refine CW.seq ?_ | with_reducible refine CW.block ?_ | ((with_reducible refine CW.reg ?_ ?_); rfl) | ((with_reducible refine CW.regQN ?_ ?_ ?_ ?_); rfl; kernel_rfl; rfl) | ((with_reducible refine CW.regS 1 ?_ ?_ ?_); kernel_rfl; rfl; simp only [List.length_cons, List.length_nil, Nat.reduceAdd, Nat.reduceSub, List.take_succ_cons, List.take_zero, List.drop_succ_cons, List.drop_zero]) | with_reducible refine CW.skip ?_ | with_reducible refine CW.ret ?_ | with_reducible refine CW.exit ?_ | refine CW.condT rfl ?_ | refine CW.condF rfl ?_ | (refine CW.condD rfl (fun _ => ?_) (fun _ => ?_) <;> (try (exfalso; omega))) | (refine CW.cond rfl (fun _ => ?_) (fun _ => ?_) <;> (try (exfalso; simp only [decide_eq_true_eq, decide_eq_false_iff_not, Bool.and_eq_true, Bool.or_eq_true] at *; omega))) | with_reducible refine thenQ_n ?_ | with_reducible refine blockQ_n ?_ | ((with_reducible refine blockQ_e ?_ ?_); rfl) | ((with_reducible refine blockQ_x ?_ ?_); rfl) | with_reducible refine blockQ_r ?_ | with_reducible refine thenQ_x ?_ | with_reducible refine thenQ_r ?_ | ((fail_if_success ((with_reducible apply J.step); rfl)); (fail_if_success ((with_reducible apply J.skipU); rfl)); refine J.splitG rfl rfl (fun _ => ?_) (fun _ => ?_) <;> (try (exfalso; omega))) | ((fail_if_success ((with_reducible apply J.step); rfl)); (fail_if_success ((with_reducible apply J.skipU); rfl)); refine J.splitB rfl rfl (fun _ => ?_) (fun _ => ?_))))
      all_goals first | (exfalso; omega) | skip
      refine ⟨j+1, ?_, by first | omega | (simp only; omega), by (repeat' (first | exact trivial | rfl | refine And.intro ?_ ?_ | exact int_congr (by omega) | exact ints_congr (by first | assumption | exact Eq.symm (by assumption)) | exact int_congr (by assumption) | exact bool_congr (by first | assumption | exact Eq.symm (by assumption)) | exact map_congr' (by first | assumption | exact Eq.symm (by assumption)) | exact ints_congr hnt.symm))⟩
      omega
    · obtain rfl : j = r.length := by omega
      rw [List.take_length]
      refine CW.freeze 12 rfl sh_int rfl ?_
      (repeat' (first | ((with_reducible apply J.step); rfl; exact FM.st) | ((with_reducible apply J.eff); rfl; exact FM.ef) | ((with_reducible apply J.eqNil); rfl; rfl; rfl; rfl; intro bnil hbnil) | (refine J.takeRow rfl rfl AV.noConfusion rfl (by first | assumption | (simp only [List.length_map]; omega)) ?_) | with_reducible refine J.nil ?_ | ((with_reducible apply J.skipV); rfl; rfl; rfl) | ((with_reducible apply J.skipU); rfl; rfl) | with_reducible refine CW.seq ?_ | with_reducible refine CW.block ?_ | ((with_reducible refine CW.reg ?_ ?_); rfl) | ((with_reducible refine CW.regQN ?_ ?_ ?_ ?_); rfl; kernel_rfl; rfl) | ((with_reducible refine CW.regS 1 ?_ ?_ ?_); kernel_rfl; rfl; simp only [List.length_cons, List.length_nil, Nat.reduceAdd, Nat.reduceSub, List.take_succ_cons, List.take_zero, List.drop_succ_cons, List.drop_zero]) | with_reducible refine CW.skip ?_ | with_reducible refine CW.ret ?_ | with_reducible refine CW.exit ?_ | refine CW.condT rfl ?_ | refine CW.condF rfl ?_ | (refine CW.condD rfl (fun _ => ?_) (fun _ => ?_) <;> (try (exfalso; omega))) | (refine CW.cond rfl (fun _ => ?_) (fun _ => ?_) <;> (try (exfalso; simp only [decide_eq_true_eq, decide_eq_false_iff_not, Bool.and_eq_true, Bool.or_eq_true] at *; omega))) | with_reducible refine thenQ_n ?_ | with_reducible refine blockQ_n ?_ | ((with_reducible refine blockQ_e ?_ ?_); rfl) | ((with_reducible refine blockQ_x ?_ ?_); rfl) | with_reducible refine blockQ_r ?_ | with_reducible refine thenQ_x ?_ | with_reducible refine thenQ_r ?_ | ((fail_if_success ((with_reducible apply J.step); rfl)); (fail_if_success ((with_reducible apply J.skipU); rfl)); refine J.splitG rfl rfl (fun _ => ?_) (fun _ => ?_) <;> (try (exfalso; omega))) | ((fail_if_success ((with_reducible apply J.step); rfl)); (fail_if_success ((with_reducible apply J.skipU); rfl)); refine J.splitB rfl rfl (fun _ => ?_) (fun _ => ?_))))
      all_goals first | (exfalso; omega) | skip
      refine ⟨k+1, ?_, by first | omega | (simp only; omega), by (repeat' (first | exact trivial | rfl | refine And.intro ?_ ?_ | exact int_congr (by omega) | exact ints_congr (by first | assumption | exact Eq.symm (by assumption)) | exact int_congr (by assumption) | exact bool_congr (by first | assumption | exact Eq.symm (by assumption)) | exact map_congr' (by first | assumption | exact Eq.symm (by assumption)) | exact map_congr' hts.symm))⟩
      omega
  · obtain rfl : k = (M).length := by omega
    rw [List.take_length]
    (repeat' (first | ((with_reducible apply J.step); rfl; exact FM.st) | ((with_reducible apply J.eff); rfl; exact FM.ef) | (refine J.callP hRe rfl rfl (by (repeat' (first | exact ArgsOk.nil | apply ArgsOk.cons | exact ArgOk.pl rfl rfl | exact ArgOk.br rfl AV.noConfusion (by first | rfl | exact sh_int | exact sh_rows | exact sh_rowsO | exact sh_box | exact sh_map (fun _ => rfl))))) (fun _ => hns) ?_) | ((with_reducible apply J.eqNil); rfl; rfl; rfl; rfl; intro bnil hbnil) | (refine J.takeRow rfl rfl AV.noConfusion rfl (by first | assumption | (simp only [List.length_map]; omega)) ?_) | with_reducible refine J.nil ?_ | ((with_reducible apply J.skipV); rfl; rfl; rfl) | ((with_reducible apply J.skipU); rfl; rfl) | with_reducible refine CW.seq ?_ | with_reducible refine CW.block ?_ | ((with_reducible refine CW.reg ?_ ?_); rfl) | ((with_reducible refine CW.regQN ?_ ?_ ?_ ?_); rfl; kernel_rfl; rfl) | ((with_reducible refine CW.regS 1 ?_ ?_ ?_); kernel_rfl; rfl; simp only [List.length_cons, List.length_nil, Nat.reduceAdd, Nat.reduceSub, List.take_succ_cons, List.take_zero, List.drop_succ_cons, List.drop_zero]) | with_reducible refine CW.skip ?_ | with_reducible refine CW.ret ?_ | with_reducible refine CW.exit ?_ | refine CW.condT rfl ?_ | refine CW.condF rfl ?_ | (refine CW.condD rfl (fun _ => ?_) (fun _ => ?_) <;> (try (exfalso; omega))) | (refine CW.cond rfl (fun _ => ?_) (fun _ => ?_) <;> (try (exfalso; simp only [decide_eq_true_eq, decide_eq_false_iff_not, Bool.and_eq_true, Bool.or_eq_true] at *; omega))) | with_reducible refine thenQ_n ?_ | with_reducible refine blockQ_n ?_ | ((with_reducible refine blockQ_e ?_ ?_); rfl) | ((with_reducible refine blockQ_x ?_ ?_); rfl) | with_reducible refine blockQ_r ?_ | with_reducible refine thenQ_x ?_ | with_reducible refine thenQ_r ?_ | ((fail_if_success ((with_reducible apply J.step); rfl)); (fail_if_success ((with_reducible apply J.skipU); rfl)); refine J.splitG rfl rfl (fun _ => ?_) (fun _ => ?_) <;> (try (exfalso; omega))) | ((fail_if_success ((with_reducible apply J.step); rfl)); (fail_if_success ((with_reducible apply J.skipU); rfl)); refine J.splitB rfl rfl (fun _ => ?_) (fun _ => ?_))))
    all_goals first | (exfalso; omega) | exact .mk rfl (congrArg AV.bool (by simp; exact hlaw.trans List.length_eq_zero_iff)) rfl
theorem topValue_spec (M : List (List Int)) (hM : M.length ≤ 9223372036854775807) (hr : ∀ r ∈ M, r.length ≤ 9223372036854775807) : FnSpec Sy.P 4 [.sl false 1 ((M).map rwS)] [.sl false 1 ((M).map rwS)] (.bool true) := by
  by_cases h2 : 2 < M.length
  · have hC := saddleCheck_spec (M.take (2 : Int).toNat) (by rw [List.length_take]; omega) (fun r hx => hr r (List.mem_of_mem_take hx))
    by_cases he : payE (M.take (2 : Int).toNat) = 0
    · have P := payE_ok he
      rw [he] at hC
      by_cases hl : (M.take (2 : Int).toNat).length = 2
      · obtain ⟨g, A, B, hT, h, P⟩ := twoV_of he hl
        rw [hT] at hC
        exact topVok_two M hM h2 g A B hT h P hC
      · exact topVerr_two M hM h2 3 (by decide) (solveFormV_spec _ hl (by have := P.n6; omega) hC) ⟨_, _, _, bounds_spec _ _ P hC⟩
    · exact topVerr_two M hM h2 _ he (solveErrV_spec _ he hC) ⟨_, _, _, boundsErr_spec _ he hC⟩
  · have hC := saddleCheck_spec (M) hM (fun r hx => hr r hx)
    by_cases he : payE (M) = 0
    · have P := payE_ok he
      rw [he] at hC
      by_cases hl : (M).length = 2
      · obtain ⟨g, A, B, hT, h, P⟩ := twoV_of he hl
        rw [hT] at hC
        exact topVok_all M hM h2 g A B hT h P hC
      · exact topVerr_all M hM h2 3 (by decide) (solveFormV_spec _ hl (by have := P.n6; omega) hC) ⟨_, _, _, bounds_spec _ _ P hC⟩
    · exact topVerr_all M hM h2 _ he (solveErrV_spec _ he hC) ⟨_, _, _, boundsErr_spec _ he hC⟩
end Go.Proofs.Ytohgcgedbhlnfaa
