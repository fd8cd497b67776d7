/- Roads: loads, costs, heights, and what is better for one. -/
import Derived.Test.YtioodlkigdklhaaRa
namespace Go.Proofs.Ytioodlkigdklhaa
open Go FM
set_option maxRecDepth 10000
set_option maxHeartbeats 1600000
set_option linter.all false
def nj (m : List Nat) : List Int := m.map fun (x : Nat) => (x : Int)
theorem nj_length {m : List Nat} : (nj m).length = m.length := by simp [nj]
theorem nj_get {m : List Nat} {i x : Nat} (h : m[i]? = some x) : (nj m)[i]? = some (x : Int) := by simp [nj, h]
theorem nj_set {m : List Nat} {i x : Nat} : (nj m).set i (x : Int) = nj (m.set i x) := by simp [nj, List.map_set]
theorem nj_take {m : List Nat} {i : Nat} : (nj m).take i = nj (m.take i) := by simp [nj, List.map_take]
/-- Right roads. -/
structure RTab (r n : Nat) (c : Nat → Nat → Int) : Prop where
  r1 : 1 ≤ r
  r4 : r ≤ 4
  n6 : n ≤ 6
  range : ∀ a j, a < r → j < n → 0 ≤ c a j ∧ c a j ≤ 100
  rows : rowsR n (mtx r n c) = 0
structure WOk (r n : Nat) (v : List Nat) : Prop where
  len : v.length = n
  lt : ∀ x ∈ v, x < r
theorem roadE_of {r n : Nat} {c : Nat → Nat → Int} {v : List Nat} (h : RTab r n c) (hv : WOk r n v) : roadE (mtx r n c) (nj v) = 0 := by
  have h1 := h.r1; have h2 := h.r4; have h3 := h.n6; have h4 := hv.len
  rw [roadE_who (by rw [mtx_length, nj_length]; omega) (by rw [nj_length, h4]; exact h.rows), if_neg]
  rw [List.any_eq_true]
  rintro ⟨x, hx, hb⟩
  obtain ⟨y, hy, rfl⟩ := List.mem_map.1 hx
  have := hv.lt y hy
  rw [mtx_length] at hb
  simp only [badW, decide_eq_true_eq] at hb
  omega
theorem rowsR_ok {n : Nat} : ∀ {M : List (List Int)}, rowsR n M = 0 → ∀ c ∈ M, c.length = n ∧ scE 0 0 c = 0
  | [], _, c, hc => by cases hc
  | q :: M, h, c, hc => by
    unfold rowsR at h
    by_cases h1 : roadRow n q = 0
    · rw [if_neg (by simpa using h1)] at h
      rcases List.mem_cons.1 hc with rfl | hc
      · unfold roadRow at h1
        by_cases h2 : c.length ≠ n
        · rw [if_pos h2] at h1; cases h1
        · rw [if_neg h2] at h1; exact ⟨by omega, h1⟩
      · exact rowsR_ok h c hc
    · rw [if_pos (by simpa using h1)] at h; exact absurd h h1
theorem scE_range : ∀ {c : List Int} {i : Nat} {last : Int}, scE i last c = 0 → ∀ x ∈ c, 0 ≤ x ∧ x ≤ 100
  | [], _, _, _, x, hx => by cases hx
  | y :: c, i, last, h, x, hx => by
    unfold scE at h
    by_cases h1 : y < 0 ∨ 100 < y
    · rw [if_pos h1] at h; cases h
    rw [if_neg h1] at h
    by_cases h2 : 0 < i ∧ y < last
    · rw [if_pos h2] at h; cases h
    rw [if_neg h2] at h
    rcases List.mem_cons.1 hx with rfl | hx
    · omega
    · exact scE_range h x hx
theorem roadE_ok {cs : List (List Int)} {who : List Int} (h : roadE cs who = 0) : ∃ r n c v, cs = mtx r n c ∧ who = nj v ∧ RTab r n c ∧ WOk r n v := by
  unfold roadE at h
  by_cases h1 : cs.length < 1 ∨ 4 < cs.length ∨ 6 < who.length
  · rw [if_pos h1] at h; cases h
  rw [if_neg h1] at h
  by_cases h2 : rowsR who.length cs ≠ 0
  · rw [if_pos h2] at h; exact absurd h h2
  rw [if_neg h2] at h
  have h2 : rowsR who.length cs = 0 := by simpa using h2
  by_cases h3 : who.any (badW cs.length) = true
  · rw [if_pos h3] at h; cases h
  have h3 := List.any_eq_false.1 (Bool.eq_false_iff.2 h3)
  have h4 : ∀ x ∈ who, 0 ≤ x ∧ x < cs.length := fun x hx => by have := h3 x hx; simp only [badW, decide_eq_true_eq] at this; omega
  have hr := rowsR_ok h2
  have hm := mtx_of (M := cs) (m := who.length) fun c hc => (hr c hc).1
  refine ⟨cs.length, who.length, _, who.map Int.toNat, hm, ?_, ⟨by omega, by omega, by omega, fun a b ha hb => ?_, by rw [← hm]; exact h2⟩, ⟨by simp, fun x hx => ?_⟩⟩
  · unfold nj
    rw [List.map_map]
    conv => lhs; rw [← List.map_id who]
    exact List.map_congr_left fun x hx => by have := h4 x hx; simp only [id, Function.comp]; omega
  · have hra := hr _ (List.getElem_mem ha)
    have e : (cs.getD a []).getD b 0 = (cs[a])[b]'(by omega) := by simp [List.getD_eq_getElem?_getD, ha, show b < (cs[a]).length by omega]
    rw [e]
    exact scE_range hra.2 _ (List.getElem_mem _)
  · obtain ⟨y, hy, rfl⟩ := List.mem_map.1 hx
    have := h4 y hy; omega
/-! ### loads -/
def ld (r : Nat) (v : List Nat) : List Nat := tb r fun a => v.count a
theorem ld_length {r : Nat} {v : List Nat} : (ld r v).length = r := tb_length
theorem ld_get {r a : Nat} {v : List Nat} (h : a < r) : (ld r v)[a]? = some (v.count a) := tb_get h
theorem ld_step {r : Nat} {v : List Nat} {k : Nat} (h : k < v.length) : (ld r (v.take k)).set v[k] ((v.take k).count v[k] + 1) = ld r (v.take (k + 1)) := by
  unfold ld
  rw [tb_set]
  refine tb_congr fun a _ => ?_
  rw [List.take_succ_eq_append_getElem h, List.count_append, List.count_singleton]
  by_cases ha : a = v[k]
  · subst ha; rw [if_pos rfl]; simp
  · rw [if_neg ha, if_neg (by simpa using fun e => ha e.symm)]; omega
theorem load_spec (r n : Nat) (c : Nat → Nat → Int) (v : List Nat) (h : RTab r n c) (hv : WOk r n v) : FnSpec Sy.P 115 [rdS (mtx r n c), .sl false 1 ((nj v).map .int)] [rdS (mtx r n c), .sl false 1 ((nj v).map .int)] (.sl true 1 ((nj (ld r v)).map .int)) := by
  have h1 := h.r1; have h2 := h.r4; have h3 := h.n6; have h4 := hv.len
  have hlen : (mtx r n c).length = r := mtx_length
  have hvl := nj_length (m := v)
  have hz : List.replicate r (0 : Int) = nj (ld r (v.take 0)) := by
    rw [tb_replicate]; unfold nj ld; rw [List.take_zero]; unfold tb; rw [List.map_map]; rfl
  refine FnSpec.enter (S := Sy) 0 Try.func115 rfl rfl rfl Try.ntmps115 rfl rfl rfl rfl fun v0 => ?_
  (repeat' (first | ((with_reducible apply J.step); rfl; exact FM.st) | ((with_reducible apply J.eff); rfl; exact FM.ef) | ((with_reducible apply J.eqNil); rfl; rfl; rfl; rfl; intro bnil hbnil) | (refine J.takeRow rfl rfl AV.noConfusion rfl (by first | assumption | (simp only [List.length_map]; omega)) ?_) | with_reducible refine J.nil ?_ | ((with_reducible apply J.skipV); rfl; rfl; rfl) | ((with_reducible apply J.skipU); rfl; rfl) | with_reducible refine CW.seq ?_ | with_reducible refine CW.block ?_ | ((with_reducible refine CW.reg ?_ ?_); rfl) | ((with_reducible refine CW.regQN ?_ ?_ ?_ ?_); rfl; kernel_rfl; rfl) | ((with_reducible refine CW.regS 1 ?_ ?_ ?_); kernel_rfl; rfl; simp only [List.length_cons, List.length_nil, Nat.reduceAdd, Nat.reduceSub, List.take_succ_cons, List.take_zero, List.drop_succ_cons, List.drop_zero]) | with_reducible refine CW.skip ?_ | with_reducible refine CW.ret ?_ | with_reducible refine CW.exit ?_ | refine CW.condT rfl ?_ | refine CW.condF rfl ?_ | (refine CW.condD rfl (fun _ => ?_) (fun _ => ?_) <;> (try (exfalso; omega))) | (refine CW.cond rfl (fun _ => ?_) (fun _ => ?_) <;> (try (exfalso; simp only [decide_eq_true_eq, decide_eq_false_iff_not, Bool.and_eq_true, Bool.or_eq_true] at *; omega))) | with_reducible refine thenQ_n ?_ | with_reducible refine blockQ_n ?_ | ((with_reducible refine blockQ_e ?_ ?_); rfl) | ((with_reducible refine blockQ_x ?_ ?_); rfl) | with_reducible refine blockQ_r ?_ | with_reducible refine thenQ_x ?_ | with_reducible refine thenQ_r ?_ | ((fail_if_success ((with_reducible apply J.step); rfl)); (fail_if_success ((with_reducible apply J.skipU); rfl)); refine J.splitG rfl rfl (fun _ => ?_) (fun _ => ?_) <;> (try (exfalso; omega))) | ((fail_if_success ((with_reducible apply J.step); rfl)); (fail_if_success ((with_reducible apply J.skipU); rfl)); refine J.splitB rfl rfl (fun _ => ?_) (fun _ => ?_))))
  refine CW.loop (fun k : Nat => [(5, .av (.sl true 1 ((nj (ld r (v.take k))).map .int))), (11, .av (.sl false 1 ((nj v).map .int))), (12, .av (.int (v.length))), (13, .av (.int (k)))]) (fun k => k ≤ v.length) (fun k => v.length - k) (0) ?_ (by (repeat' (first | exact trivial | rfl | refine And.intro ?_ ?_ | exact int_congr (by omega) | exact ints_congr (by first | assumption | exact Eq.symm (by assumption)) | exact int_congr (by assumption) | exact bool_congr (by first | assumption | exact Eq.symm (by assumption)) | exact map_congr' (by first | assumption | exact Eq.symm (by assumption)) | exact ints_congr (by rw [show ((((mtx r n c).length : Nat) : Int)).toNat = r by omega]; exact hz)))) ?_
  · exact Nat.zero_le _
  intro k hk
  have hll := ld_length (r := r) (v := v.take k)
  have hnl := nj_length (m := ld r (v.take k))
  by_cases hkl : k < v.length
  · have hx := nj_get (List.getElem?_eq_getElem hkl)
    have hlt := hv.lt _ (List.getElem_mem hkl)
    have hs := ld_step (r := r) hkl
    have hcl : (v.take k).count v[k] ≤ 6 := Nat.le_trans (List.count_le_length ..) (by rw [List.length_take]; omega)
    generalize v[k] = x at *
    have g1 := nj_get (ld_get (r := r) (v := v.take k) hlt)
    have e1 : (nj (ld r (v.take k))).set x ((((v.take k).count x : Nat) : Int) + 1) = nj (ld r (v.take (k + 1))) := by
      rw [show (((v.take k).count x : Nat) : Int) + 1 = (((v.take k).count x + 1 : Nat) : Int) by omega, nj_set, hs]
    (repeat' (first | ((with_reducible apply J.step); rfl; exact FM.st) | ((with_reducible apply J.eff); rfl; exact FM.ef) | ((with_reducible apply J.eqNil); rfl; rfl; rfl; rfl; intro bnil hbnil) | (refine J.takeRow rfl rfl AV.noConfusion rfl (by first | assumption | (simp only [List.length_map]; omega)) ?_) | with_reducible refine J.nil ?_ | ((with_reducible apply J.skipV); rfl; rfl; rfl) | ((with_reducible apply J.skipU); rfl; rfl) | with_reducible refine CW.seq ?_ | with_reducible refine CW.block ?_ | ((with_reducible refine CW.reg ?_ ?_); rfl) | ((with_reducible refine CW.regQN ?_ ?_ ?_ ?_); rfl; kernel_rfl; rfl) | ((with_reducible refine CW.regS 1 ?_ ?_ ?_); kernel_rfl; rfl; simp only [List.length_cons, List.length_nil, Nat.reduceAdd, Nat.reduceSub, List.take_succ_cons, List.take_zero, List.drop_succ_cons, List.drop_zero]) | with_reducible refine CW.skip ?_ | with_reducible refine CW.ret ?_ | with_reducible refine CW.exit ?_ | refine CW.condT rfl ?_ | refine CW.condF rfl ?_ | (refine CW.condD rfl (fun _ => ?_) (fun _ => ?_) <;> (try (exfalso; omega))) | (refine CW.cond rfl (fun _ => ?_) (fun _ => ?_) <;> (try (exfalso; simp only [decide_eq_true_eq, decide_eq_false_iff_not, Bool.and_eq_true, Bool.or_eq_true] at *; omega))) | with_reducible refine thenQ_n ?_ | with_reducible refine blockQ_n ?_ | ((with_reducible refine blockQ_e ?_ ?_); rfl) | ((with_reducible refine blockQ_x ?_ ?_); rfl) | with_reducible refine blockQ_r ?_ | with_reducible refine thenQ_x ?_ | with_reducible refine thenQ_r ?_ | ((fail_if_success ((with_reducible apply J.step); rfl)); (fail_if_success ((with_reducible apply J.skipU); rfl)); refine J.splitG rfl rfl (fun _ => ?_) (fun _ => ?_) <;> (try (exfalso; omega))) | ((fail_if_success ((with_reducible apply J.step); rfl)); (fail_if_success ((with_reducible apply J.skipU); rfl)); refine J.splitB rfl rfl (fun _ => ?_) (fun _ => ?_))))
    refine ⟨k+1, ?_, by omega, by (repeat' (first | exact trivial | rfl | refine And.intro ?_ ?_ | exact int_congr (by omega) | exact ints_congr (by first | assumption | exact Eq.symm (by assumption)) | exact int_congr (by assumption) | exact bool_congr (by first | assumption | exact Eq.symm (by assumption)) | exact map_congr' (by first | assumption | exact Eq.symm (by assumption))))⟩
    omega
  · obtain rfl : k = v.length := by omega
    rw [List.take_length]
    (repeat' (first | ((with_reducible apply J.step); rfl; exact FM.st) | ((with_reducible apply J.eff); rfl; exact FM.ef) | ((with_reducible apply J.eqNil); rfl; rfl; rfl; rfl; intro bnil hbnil) | (refine J.takeRow rfl rfl AV.noConfusion rfl (by first | assumption | (simp only [List.length_map]; omega)) ?_) | with_reducible refine J.nil ?_ | ((with_reducible apply J.skipV); rfl; rfl; rfl) | ((with_reducible apply J.skipU); rfl; rfl) | with_reducible refine CW.seq ?_ | with_reducible refine CW.block ?_ | ((with_reducible refine CW.reg ?_ ?_); rfl) | ((with_reducible refine CW.regQN ?_ ?_ ?_ ?_); rfl; kernel_rfl; rfl) | ((with_reducible refine CW.regS 1 ?_ ?_ ?_); kernel_rfl; rfl; simp only [List.length_cons, List.length_nil, Nat.reduceAdd, Nat.reduceSub, List.take_succ_cons, List.take_zero, List.drop_succ_cons, List.drop_zero]) | with_reducible refine CW.skip ?_ | with_reducible refine CW.ret ?_ | with_reducible refine CW.exit ?_ | refine CW.condT rfl ?_ | refine CW.condF rfl ?_ | (refine CW.condD rfl (fun _ => ?_) (fun _ => ?_) <;> (try (exfalso; omega))) | (refine CW.cond rfl (fun _ => ?_) (fun _ => ?_) <;> (try (exfalso; simp only [decide_eq_true_eq, decide_eq_false_iff_not, Bool.and_eq_true, Bool.or_eq_true] at *; omega))) | with_reducible refine thenQ_n ?_ | with_reducible refine blockQ_n ?_ | ((with_reducible refine blockQ_e ?_ ?_); rfl) | ((with_reducible refine blockQ_x ?_ ?_); rfl) | with_reducible refine blockQ_r ?_ | with_reducible refine thenQ_x ?_ | with_reducible refine thenQ_r ?_ | ((fail_if_success ((with_reducible apply J.step); rfl)); (fail_if_success ((with_reducible apply J.skipU); rfl)); refine J.splitG rfl rfl (fun _ => ?_) (fun _ => ?_) <;> (try (exfalso; omega))) | ((fail_if_success ((with_reducible apply J.step); rfl)); (fail_if_success ((with_reducible apply J.skipU); rfl)); refine J.splitB rfl rfl (fun _ => ?_) (fun _ => ?_))))
    exact .mk rfl rfl rfl
/-! ### costs -/
def cst (c : Nat → Nat → Int) (v : List Nat) (i : Nat) : Int := c (v.getD i 0) (v.count (v.getD i 0) - 1)
theorem cst_at {c : Nat → Nat → Int} {v : List Nat} {i x : Nat} (h : v[i]? = some x) : cst c v i = c x (v.count x - 1) := by
  unfold cst; rw [List.getD_eq_getElem?_getD, h]; rfl
theorem cnt_pos {v : List Nat} {i x : Nat} (h : v[i]? = some x) : 1 ≤ v.count x := List.count_pos_iff.2 (List.mem_of_getElem? h)
theorem costOf_spec (r n : Nat) (c : Nat → Nat → Int) (h : RTab r n c) (u : List Nat) (hul : u.length ≤ n) (hu : ∀ x ∈ u, x < r) (i : Nat) (hi : i < u.length) : FnSpec Sy.P 87 [rdS (mtx r n c), .sl false 1 ((nj u).map .int), .int i] [rdS (mtx r n c), .sl false 1 ((nj u).map .int), .int i] (.int (cst c u i)) := by
  have h1 := h.r1; have h2 := h.r4; have h3 := h.n6
  have hvl := nj_length (m := u)
  have hx0 : u[i]? = some u[i] := List.getElem?_eq_getElem hi
  have hlt := hu _ (List.getElem_mem hi)
  rw [cst_at hx0]
  have hcp := cnt_pos hx0
  have hcl := List.count_le_length (a := u[i]) (l := u)
  have hx := nj_get hx0
  generalize u[i] = x at *
  have g1 := mtx_get (m := n) (f := c) hlt
  have g2 := tb_get (g := c x) (show u.count x - 1 < n by omega)
  have hr := h.range x (u.count x - 1) hlt (by omega)
  have g3 : (tb n (c x))[(((u.count x : Nat) : Int) - 1).toNat]? = some (c x (u.count x - 1)) := by
    rw [show (((u.count x : Nat) : Int) - 1).toNat = u.count x - 1 by omega]; exact g2
  refine FnSpec.enter (S := Sy) 0 Try.func87 rfl rfl rfl Try.ntmps87 rfl rfl rfl rfl fun v0 => ?_
  (repeat' (first | ((with_reducible apply J.step); rfl; exact FM.st) | ((with_reducible apply J.eff); rfl; exact FM.ef) | ((with_reducible apply J.eqNil); rfl; rfl; rfl; rfl; intro bnil hbnil) | (refine J.takeRow rfl rfl AV.noConfusion rfl (by first | assumption | (simp only [List.length_map]; omega)) ?_) | with_reducible refine J.nil ?_ | ((with_reducible apply J.skipV); rfl; rfl; rfl) | ((with_reducible apply J.skipU); rfl; rfl) | with_reducible refine CW.seq ?_ | with_reducible refine CW.block ?_ | ((with_reducible refine CW.reg ?_ ?_); rfl) | ((with_reducible refine CW.regQN ?_ ?_ ?_ ?_); rfl; kernel_rfl; rfl) | ((with_reducible refine CW.regS 1 ?_ ?_ ?_); kernel_rfl; rfl; simp only [List.length_cons, List.length_nil, Nat.reduceAdd, Nat.reduceSub, List.take_succ_cons, List.take_zero, List.drop_succ_cons, List.drop_zero]) | with_reducible refine CW.skip ?_ | with_reducible refine CW.ret ?_ | with_reducible refine CW.exit ?_ | refine CW.condT rfl ?_ | refine CW.condF rfl ?_ | (refine CW.condD rfl (fun _ => ?_) (fun _ => ?_) <;> (try (exfalso; omega))) | (refine CW.cond rfl (fun _ => ?_) (fun _ => ?_) <;> (try (exfalso; simp only [decide_eq_true_eq, decide_eq_false_iff_not, Bool.and_eq_true, Bool.or_eq_true] at *; omega))) | with_reducible refine thenQ_n ?_ | with_reducible refine blockQ_n ?_ | ((with_reducible refine blockQ_e ?_ ?_); rfl) | ((with_reducible refine blockQ_x ?_ ?_); rfl) | with_reducible refine blockQ_r ?_ | with_reducible refine thenQ_x ?_ | with_reducible refine thenQ_r ?_ | ((fail_if_success ((with_reducible apply J.step); rfl)); (fail_if_success ((with_reducible apply J.skipU); rfl)); refine J.splitG rfl rfl (fun _ => ?_) (fun _ => ?_) <;> (try (exfalso; omega))) | ((fail_if_success ((with_reducible apply J.step); rfl)); (fail_if_success ((with_reducible apply J.skipU); rfl)); refine J.splitB rfl rfl (fun _ => ?_) (fun _ => ?_))))
  refine CW.loop (fun k : Nat => [(0, .av (rdS (mtx r n c))), (1, .av (.sl false 1 ((nj u).map .int))), (2, .av (.int (i))), (7, .av (.int ((((u.take k).count x : Nat) : Int)))), (10, .av (.sl false 1 ((nj u).map .int))), (11, .av (.int (u.length))), (12, .av (.int (k)))]) (fun k => k ≤ u.length) (fun k => u.length - k) (0) ?_ (by (repeat' (first | exact trivial | rfl | refine And.intro ?_ ?_ | exact int_congr (by omega) | exact ints_congr (by first | assumption | exact Eq.symm (by assumption)) | exact int_congr (by assumption) | exact bool_congr (by first | assumption | exact Eq.symm (by assumption)) | exact map_congr' (by first | assumption | exact Eq.symm (by assumption))))) ?_
  · exact Nat.zero_le _
  intro k hk
  have hck := List.count_le_length (a := x) (l := u.take k)
  rw [List.length_take] at hck
  by_cases hkl : k < u.length
  · have hy := nj_get (List.getElem?_eq_getElem hkl)
    have e : (u.take (k + 1)).count x = (u.take k).count x + if u[k] = x then 1 else 0 := by
      rw [List.take_succ_eq_append_getElem hkl, List.count_append, List.count_singleton]
      congr 1
      by_cases hc : u[k] = x <;> simp [hc]
    generalize u[k] = y at *
    by_cases hc : y = x
    · rw [if_pos hc] at e
      (repeat' (first | ((with_reducible apply J.step); rfl; exact FM.st) | ((with_reducible apply J.eff); rfl; exact FM.ef) | ((with_reducible apply J.eqNil); rfl; rfl; rfl; rfl; intro bnil hbnil) | (refine J.takeRow rfl rfl AV.noConfusion rfl (by first | assumption | (simp only [List.length_map]; omega)) ?_) | with_reducible refine J.nil ?_ | ((with_reducible apply J.skipV); rfl; rfl; rfl) | ((with_reducible apply J.skipU); rfl; rfl) | with_reducible refine CW.seq ?_ | with_reducible refine CW.block ?_ | ((with_reducible refine CW.reg ?_ ?_); rfl) | ((with_reducible refine CW.regQN ?_ ?_ ?_ ?_); rfl; kernel_rfl; rfl) | ((with_reducible refine CW.regS 1 ?_ ?_ ?_); kernel_rfl; rfl; simp only [List.length_cons, List.length_nil, Nat.reduceAdd, Nat.reduceSub, List.take_succ_cons, List.take_zero, List.drop_succ_cons, List.drop_zero]) | with_reducible refine CW.skip ?_ | with_reducible refine CW.ret ?_ | with_reducible refine CW.exit ?_ | refine CW.condT rfl ?_ | refine CW.condF rfl ?_ | (refine CW.condD rfl (fun _ => ?_) (fun _ => ?_) <;> (try (exfalso; omega))) | (refine CW.cond rfl (fun _ => ?_) (fun _ => ?_) <;> (try (exfalso; simp only [decide_eq_true_eq, decide_eq_false_iff_not, Bool.and_eq_true, Bool.or_eq_true] at *; omega))) | with_reducible refine thenQ_n ?_ | with_reducible refine blockQ_n ?_ | ((with_reducible refine blockQ_e ?_ ?_); rfl) | ((with_reducible refine blockQ_x ?_ ?_); rfl) | with_reducible refine blockQ_r ?_ | with_reducible refine thenQ_x ?_ | with_reducible refine thenQ_r ?_ | ((fail_if_success ((with_reducible apply J.step); rfl)); (fail_if_success ((with_reducible apply J.skipU); rfl)); refine J.splitG rfl rfl (fun _ => ?_) (fun _ => ?_) <;> (try (exfalso; omega))) | ((fail_if_success ((with_reducible apply J.step); rfl)); (fail_if_success ((with_reducible apply J.skipU); rfl)); refine J.splitB rfl rfl (fun _ => ?_) (fun _ => ?_))))
      refine ⟨k+1, ?_, by omega, by (repeat' (first | exact trivial | rfl | refine And.intro ?_ ?_ | exact int_congr (by omega) | exact ints_congr (by first | assumption | exact Eq.symm (by assumption)) | exact int_congr (by assumption) | exact bool_congr (by first | assumption | exact Eq.symm (by assumption)) | exact map_congr' (by first | assumption | exact Eq.symm (by assumption))))⟩
      omega
    · rw [if_neg hc] at e
      (repeat' (first | ((with_reducible apply J.step); rfl; exact FM.st) | ((with_reducible apply J.eff); rfl; exact FM.ef) | ((with_reducible apply J.eqNil); rfl; rfl; rfl; rfl; intro bnil hbnil) | (refine J.takeRow rfl rfl AV.noConfusion rfl (by first | assumption | (simp only [List.length_map]; omega)) ?_) | with_reducible refine J.nil ?_ | ((with_reducible apply J.skipV); rfl; rfl; rfl) | ((with_reducible apply J.skipU); rfl; rfl) | with_reducible refine CW.seq ?_ | with_reducible refine CW.block ?_ | ((with_reducible refine CW.reg ?_ ?_); rfl) | ((with_reducible refine CW.regQN ?_ ?_ ?_ ?_); rfl; kernel_rfl; rfl) | ((with_reducible refine CW.regS 1 ?_ ?_ ?_); kernel_rfl; rfl; simp only [List.length_cons, List.length_nil, Nat.reduceAdd, Nat.reduceSub, List.take_succ_cons, List.take_zero, List.drop_succ_cons, List.drop_zero]) | with_reducible refine CW.skip ?_ | with_reducible refine CW.ret ?_ | with_reducible refine CW.exit ?_ | refine CW.condT rfl ?_ | refine CW.condF rfl ?_ | (refine CW.condD rfl (fun _ => ?_) (fun _ => ?_) <;> (try (exfalso; omega))) | (refine CW.cond rfl (fun _ => ?_) (fun _ => ?_) <;> (try (exfalso; simp only [decide_eq_true_eq, decide_eq_false_iff_not, Bool.and_eq_true, Bool.or_eq_true] at *; omega))) | with_reducible refine thenQ_n ?_ | with_reducible refine blockQ_n ?_ | ((with_reducible refine blockQ_e ?_ ?_); rfl) | ((with_reducible refine blockQ_x ?_ ?_); rfl) | with_reducible refine blockQ_r ?_ | with_reducible refine thenQ_x ?_ | with_reducible refine thenQ_r ?_ | ((fail_if_success ((with_reducible apply J.step); rfl)); (fail_if_success ((with_reducible apply J.skipU); rfl)); refine J.splitG rfl rfl (fun _ => ?_) (fun _ => ?_) <;> (try (exfalso; omega))) | ((fail_if_success ((with_reducible apply J.step); rfl)); (fail_if_success ((with_reducible apply J.skipU); rfl)); refine J.splitB rfl rfl (fun _ => ?_) (fun _ => ?_))))
      refine ⟨k+1, ?_, by omega, by (repeat' (first | exact trivial | rfl | refine And.intro ?_ ?_ | exact int_congr (by omega) | exact ints_congr (by first | assumption | exact Eq.symm (by assumption)) | exact int_congr (by assumption) | exact bool_congr (by first | assumption | exact Eq.symm (by assumption)) | exact map_congr' (by first | assumption | exact Eq.symm (by assumption))))⟩
      omega
  · obtain rfl : k = u.length := by omega
    rw [List.take_length]
    (repeat' (first | ((with_reducible apply J.step); rfl; exact FM.st) | ((with_reducible apply J.eff); rfl; exact FM.ef) | ((with_reducible apply J.eqNil); rfl; rfl; rfl; rfl; intro bnil hbnil) | (refine J.takeRow rfl rfl AV.noConfusion rfl (by first | assumption | (simp only [List.length_map]; omega)) ?_) | with_reducible refine J.nil ?_ | ((with_reducible apply J.skipV); rfl; rfl; rfl) | ((with_reducible apply J.skipU); rfl; rfl) | with_reducible refine CW.seq ?_ | with_reducible refine CW.block ?_ | ((with_reducible refine CW.reg ?_ ?_); rfl) | ((with_reducible refine CW.regQN ?_ ?_ ?_ ?_); rfl; kernel_rfl; rfl) | ((with_reducible refine CW.regS 1 ?_ ?_ ?_); kernel_rfl; rfl; simp only [List.length_cons, List.length_nil, Nat.reduceAdd, Nat.reduceSub, List.take_succ_cons, List.take_zero, List.drop_succ_cons, List.drop_zero]) | with_reducible refine CW.skip ?_ | with_reducible refine CW.ret ?_ | with_reducible refine CW.exit ?_ | refine CW.condT rfl ?_ | refine CW.condF rfl ?_ | (refine CW.condD rfl (fun _ => ?_) (fun _ => ?_) <;> (try (exfalso; omega))) | (refine CW.cond rfl (fun _ => ?_) (fun _ => ?_) <;> (try (exfalso; simp only [decide_eq_true_eq, decide_eq_false_iff_not, Bool.and_eq_true, Bool.or_eq_true] at *; omega))) | with_reducible refine thenQ_n ?_ | with_reducible refine blockQ_n ?_ | ((with_reducible refine blockQ_e ?_ ?_); rfl) | ((with_reducible refine blockQ_x ?_ ?_); rfl) | with_reducible refine blockQ_r ?_ | with_reducible refine thenQ_x ?_ | with_reducible refine thenQ_r ?_ | ((fail_if_success ((with_reducible apply J.step); rfl)); (fail_if_success ((with_reducible apply J.skipU); rfl)); refine J.splitG rfl rfl (fun _ => ?_) (fun _ => ?_) <;> (try (exfalso; omega))) | ((fail_if_success ((with_reducible apply J.step); rfl)); (fail_if_success ((with_reducible apply J.skipU); rfl)); refine J.splitB rfl rfl (fun _ => ?_) (fun _ => ?_))))
    exact .mk rfl rfl rfl
theorem costs_spec (r n : Nat) (c : Nat → Nat → Int) (v : List Nat) (h : RTab r n c) (hv : WOk r n v) (hC : FnSpec Sy.P 85 [rdS (mtx r n c), .sl false 1 ((nj v).map .int)] [rdS (mtx r n c), .sl false 1 ((nj v).map .int)] (.int 0)) : FnSpec Sy.P 80 [rdS (mtx r n c), .sl false 1 ((nj v).map .int)] [rdS (mtx r n c), .sl false 1 ((nj v).map .int)] (.tup [.sl true 1 ((tb n (cst c v)).map .int), .int 0]) := by
  have h1 := h.r1; have h2 := h.r4; have h3 := h.n6; have h4 := hv.len
  have hvl := nj_length (m := v)
  have hL := load_spec r n c v h hv
  obtain ⟨G, hG⟩ : ∃ G : Nat → List Int, ∀ k, G k = tb n fun i => if i < k then cst c v i else 0 := ⟨_, fun _ => rfl⟩
  have hz : List.replicate n (0 : Int) = G 0 := by rw [hG, tb_replicate]; exact tb_congr fun i _ => by simp
  have hfin : G n = tb n (cst c v) := by rw [hG]; exact tb_congr fun i hi => by rw [if_pos hi]
  have hGl : ∀ k, (G k).length = n := fun k => by rw [hG]; exact tb_length
  have hGs : ∀ k, (G k).set k (cst c v k) = G (k + 1) := fun k => by
    rw [hG, hG, tb_set]
    refine tb_congr fun a _ => ?_
    by_cases ha : a = k
    · subst ha; rw [if_pos rfl, if_pos (Nat.lt_succ_self _)]
    · rw [if_neg ha]; have : (a < k) = (a < k + 1) := by apply propext; omega
      simp only [this]
  rw [← hfin]
  refine FnSpec.enter (S := Sy) 0 Try.func80 rfl rfl rfl Try.ntmps80 rfl rfl rfl rfl fun v0 => ?_
  (repeat' (first | ((with_reducible apply J.step); rfl; exact FM.st) | ((with_reducible apply J.eff); rfl; exact FM.ef) | ((with_reducible apply J.callP (hC)); rfl; rfl; (repeat' (first | exact ArgsOk.nil | apply ArgsOk.cons | exact ArgOk.pl rfl rfl | exact ArgOk.br rfl AV.noConfusion (by first | rfl | exact sh_int | exact sh_rows | exact sh_rowsO))); (first | rfl | exact (fun h => Bool.noConfusion h) | exact (fun _ => noSh_ints) | exact (fun _ => noSh_rows) | exact (fun _ => NoSh.int) | exact (fun _ => NoSh.bool) | exact (fun _ => NoSh.nil) | exact (fun _ => noSh_tup2 (by first | exact noSh_ints | exact noSh_rows | exact NoSh.nil | exact NoSh.int | exact NoSh.bool) (by first | exact noSh_ints | exact NoSh.int | exact NoSh.bool | exact noSh_rows | exact NoSh.nil)) | exact (fun _ => noSh_tup3 (by first | exact noSh_ints | exact noSh_rows | exact NoSh.nil | exact NoSh.int | exact NoSh.bool) (by first | exact noSh_ints | exact NoSh.int | exact NoSh.bool | exact noSh_rows | exact NoSh.nil) (by first | exact noSh_ints | exact NoSh.int | exact NoSh.bool | exact noSh_rows | exact NoSh.nil)))) | ((with_reducible apply J.callPQ (hC)); rfl; rfl; (repeat' (first | exact ArgsOk.nil | apply ArgsOk.cons | exact ArgOk.pl rfl rfl | exact ArgOk.br rfl AV.noConfusion (by first | rfl | exact sh_int | exact sh_rows | exact sh_rowsO))); rfl) | ((with_reducible apply J.callP (hL)); rfl; rfl; (repeat' (first | exact ArgsOk.nil | apply ArgsOk.cons | exact ArgOk.pl rfl rfl | exact ArgOk.br rfl AV.noConfusion (by first | rfl | exact sh_int | exact sh_rows | exact sh_rowsO))); (first | rfl | exact (fun h => Bool.noConfusion h) | exact (fun _ => noSh_ints) | exact (fun _ => noSh_rows) | exact (fun _ => NoSh.int) | exact (fun _ => NoSh.bool) | exact (fun _ => NoSh.nil) | exact (fun _ => noSh_tup2 (by first | exact noSh_ints | exact noSh_rows | exact NoSh.nil | exact NoSh.int | exact NoSh.bool) (by first | exact noSh_ints | exact NoSh.int | exact NoSh.bool | exact noSh_rows | exact NoSh.nil)) | exact (fun _ => noSh_tup3 (by first | exact noSh_ints | exact noSh_rows | exact NoSh.nil | exact NoSh.int | exact NoSh.bool) (by first | exact noSh_ints | exact NoSh.int | exact NoSh.bool | exact noSh_rows | exact NoSh.nil) (by first | exact noSh_ints | exact NoSh.int | exact NoSh.bool | exact noSh_rows | exact NoSh.nil)))) | ((with_reducible apply J.callPQ (hL)); rfl; rfl; (repeat' (first | exact ArgsOk.nil | apply ArgsOk.cons | exact ArgOk.pl rfl rfl | exact ArgOk.br rfl AV.noConfusion (by first | rfl | exact sh_int | exact sh_rows | exact sh_rowsO))); rfl) | ((with_reducible apply J.eqNil); rfl; rfl; rfl; rfl; intro bnil hbnil) | (refine J.takeRow rfl rfl AV.noConfusion rfl (by first | assumption | (simp only [List.length_map]; omega)) ?_) | with_reducible refine J.nil ?_ | ((with_reducible apply J.skipV); rfl; rfl; rfl) | ((with_reducible apply J.skipU); rfl; rfl) | with_reducible refine CW.seq ?_ | with_reducible refine CW.block ?_ | ((with_reducible refine CW.reg ?_ ?_); rfl) | ((with_reducible refine CW.regQN ?_ ?_ ?_ ?_); rfl; kernel_rfl; rfl) | ((with_reducible refine CW.regS 1 ?_ ?_ ?_); kernel_rfl; rfl; simp only [List.length_cons, List.length_nil, Nat.reduceAdd, Nat.reduceSub, List.take_succ_cons, List.take_zero, List.drop_succ_cons, List.drop_zero]) | with_reducible refine CW.skip ?_ | with_reducible refine CW.ret ?_ | with_reducible refine CW.exit ?_ | refine CW.condT rfl ?_ | refine CW.condF rfl ?_ | (refine CW.condD rfl (fun _ => ?_) (fun _ => ?_) <;> (try (exfalso; omega))) | (refine CW.cond rfl (fun _ => ?_) (fun _ => ?_) <;> (try (exfalso; simp only [decide_eq_true_eq, decide_eq_false_iff_not, Bool.and_eq_true, Bool.or_eq_true] at *; omega))) | with_reducible refine thenQ_n ?_ | with_reducible refine blockQ_n ?_ | ((with_reducible refine blockQ_e ?_ ?_); rfl) | ((with_reducible refine blockQ_x ?_ ?_); rfl) | with_reducible refine blockQ_r ?_ | with_reducible refine thenQ_x ?_ | with_reducible refine thenQ_r ?_ | ((fail_if_success ((with_reducible apply J.step); rfl)); (fail_if_success ((with_reducible apply J.skipU); rfl)); refine J.splitG rfl rfl (fun _ => ?_) (fun _ => ?_) <;> (try (exfalso; omega))) | ((fail_if_success ((with_reducible apply J.step); rfl)); (fail_if_success ((with_reducible apply J.skipU); rfl)); refine J.splitB rfl rfl (fun _ => ?_) (fun _ => ?_))))
  refine CW.loop (fun k : Nat => [(0, .av (rdS (mtx r n c))), (7, .av (.sl true 1 ((nj (ld r v)).map .int))), (8, .av (.sl true 1 ((G k).map .int))), (23, .av (.sl false 1 ((nj v).map .int))), (24, .av (.int (v.length))), (25, .av (.int (k)))]) (fun k => k ≤ n) (fun k => n - k) (0) ?_ (by (repeat' (first | exact trivial | rfl | refine And.intro ?_ ?_ | exact int_congr (by omega) | exact ints_congr (by first | assumption | exact Eq.symm (by assumption)) | exact int_congr (by assumption) | exact bool_congr (by first | assumption | exact Eq.symm (by assumption)) | exact map_congr' (by first | assumption | exact Eq.symm (by assumption)) | exact ints_congr (by rw [show ((((nj v).length : Nat) : Int)).toNat = n by omega]; exact hz)))) ?_
  · exact Nat.zero_le _
  intro k hk
  have hl := hGl k
  by_cases hkl : k < n
  · have hx0 : v[k]? = some (v[k]'(by omega)) := List.getElem?_eq_getElem (by omega)
    have hx := nj_get hx0
    have hlt := hv.lt _ (List.getElem_mem (by omega : k < v.length))
    have hs := hGs k
    rw [cst_at hx0] at hs
    have hcp := cnt_pos hx0
    have hcl := List.count_le_length (a := v[k]'(by omega)) (l := v)
    generalize v[k]'(by omega) = x at *
    have g1 := mtx_get (m := n) (f := c) hlt
    have g2 := tb_get (g := c x) (show v.count x - 1 < n by omega)
    have g3 : (tb n (c x))[(((v.count x : Nat) : Int) - 1).toNat]? = some (c x (v.count x - 1)) := by
      rw [show (((v.count x : Nat) : Int) - 1).toNat = v.count x - 1 by omega]; exact g2
    have g4 := nj_get (ld_get (r := r) (v := v) hlt)
    obtain ⟨y0, g5⟩ : ∃ y, (G k)[k]? = some y := ⟨_, List.getElem?_eq_getElem (by omega)⟩
    (repeat' (first | ((with_reducible apply J.step); rfl; exact FM.st) | ((with_reducible apply J.eff); rfl; exact FM.ef) | ((with_reducible apply J.eqNil); rfl; rfl; rfl; rfl; intro bnil hbnil) | (refine J.takeRow rfl rfl AV.noConfusion rfl (by first | assumption | (simp only [List.length_map]; omega)) ?_) | with_reducible refine J.nil ?_ | ((with_reducible apply J.skipV); rfl; rfl; rfl) | ((with_reducible apply J.skipU); rfl; rfl) | with_reducible refine CW.seq ?_ | with_reducible refine CW.block ?_ | ((with_reducible refine CW.reg ?_ ?_); rfl) | ((with_reducible refine CW.regQN ?_ ?_ ?_ ?_); rfl; kernel_rfl; rfl) | ((with_reducible refine CW.regS 1 ?_ ?_ ?_); kernel_rfl; rfl; simp only [List.length_cons, List.length_nil, Nat.reduceAdd, Nat.reduceSub, List.take_succ_cons, List.take_zero, List.drop_succ_cons, List.drop_zero]) | with_reducible refine CW.skip ?_ | with_reducible refine CW.ret ?_ | with_reducible refine CW.exit ?_ | refine CW.condT rfl ?_ | refine CW.condF rfl ?_ | (refine CW.condD rfl (fun _ => ?_) (fun _ => ?_) <;> (try (exfalso; omega))) | (refine CW.cond rfl (fun _ => ?_) (fun _ => ?_) <;> (try (exfalso; simp only [decide_eq_true_eq, decide_eq_false_iff_not, Bool.and_eq_true, Bool.or_eq_true] at *; omega))) | with_reducible refine thenQ_n ?_ | with_reducible refine blockQ_n ?_ | ((with_reducible refine blockQ_e ?_ ?_); rfl) | ((with_reducible refine blockQ_x ?_ ?_); rfl) | with_reducible refine blockQ_r ?_ | with_reducible refine thenQ_x ?_ | with_reducible refine thenQ_r ?_ | ((fail_if_success ((with_reducible apply J.step); rfl)); (fail_if_success ((with_reducible apply J.skipU); rfl)); refine J.splitG rfl rfl (fun _ => ?_) (fun _ => ?_) <;> (try (exfalso; omega))) | ((fail_if_success ((with_reducible apply J.step); rfl)); (fail_if_success ((with_reducible apply J.skipU); rfl)); refine J.splitB rfl rfl (fun _ => ?_) (fun _ => ?_))))
    refine ⟨k+1, ?_, by omega, by (repeat' (first | exact trivial | rfl | refine And.intro ?_ ?_ | exact int_congr (by omega) | exact ints_congr (by first | assumption | exact Eq.symm (by assumption)) | exact int_congr (by assumption) | exact bool_congr (by first | assumption | exact Eq.symm (by assumption)) | exact map_congr' (by first | assumption | exact Eq.symm (by assumption))))⟩
    omega
  · obtain rfl : k = n := by omega
    (repeat' (first | ((with_reducible apply J.step); rfl; exact FM.st) | ((with_reducible apply J.eff); rfl; exact FM.ef) | ((with_reducible apply J.eqNil); rfl; rfl; rfl; rfl; intro bnil hbnil) | (refine J.takeRow rfl rfl AV.noConfusion rfl (by first | assumption | (simp only [List.length_map]; omega)) ?_) | with_reducible refine J.nil ?_ | ((with_reducible apply J.skipV); rfl; rfl; rfl) | ((with_reducible apply J.skipU); rfl; rfl) | with_reducible refine CW.seq ?_ | with_reducible refine CW.block ?_ | ((with_reducible refine CW.reg ?_ ?_); rfl) | ((with_reducible refine CW.regQN ?_ ?_ ?_ ?_); rfl; kernel_rfl; rfl) | ((with_reducible refine CW.regS 1 ?_ ?_ ?_); kernel_rfl; rfl; simp only [List.length_cons, List.length_nil, Nat.reduceAdd, Nat.reduceSub, List.take_succ_cons, List.take_zero, List.drop_succ_cons, List.drop_zero]) | with_reducible refine CW.skip ?_ | with_reducible refine CW.ret ?_ | with_reducible refine CW.exit ?_ | refine CW.condT rfl ?_ | refine CW.condF rfl ?_ | (refine CW.condD rfl (fun _ => ?_) (fun _ => ?_) <;> (try (exfalso; omega))) | (refine CW.cond rfl (fun _ => ?_) (fun _ => ?_) <;> (try (exfalso; simp only [decide_eq_true_eq, decide_eq_false_iff_not, Bool.and_eq_true, Bool.or_eq_true] at *; omega))) | with_reducible refine thenQ_n ?_ | with_reducible refine blockQ_n ?_ | ((with_reducible refine blockQ_e ?_ ?_); rfl) | ((with_reducible refine blockQ_x ?_ ?_); rfl) | with_reducible refine blockQ_r ?_ | with_reducible refine thenQ_x ?_ | with_reducible refine thenQ_r ?_ | ((fail_if_success ((with_reducible apply J.step); rfl)); (fail_if_success ((with_reducible apply J.skipU); rfl)); refine J.splitG rfl rfl (fun _ => ?_) (fun _ => ?_) <;> (try (exfalso; omega))) | ((fail_if_success ((with_reducible apply J.step); rfl)); (fail_if_success ((with_reducible apply J.skipU); rfl)); refine J.splitB rfl rfl (fun _ => ?_) (fun _ => ?_))))
    exact .mk rfl rfl rfl
/-! ### heights -/
def sC (c : Nat → Nat → Int) (a : Nat) : Nat → Int
  | 0 => 0
  | j + 1 => sC c a j + c a j
def pS (c : Nat → Nat → Int) (f : Nat → Nat) : Nat → Int
  | 0 => 0
  | a + 1 => pS c f a + sC c a (f a)
theorem sC_bound {r n : Nat} {c : Nat → Nat → Int} (h : RTab r n c) {a : Nat} (ha : a < r) : ∀ j, j ≤ n → 0 ≤ sC c a j ∧ sC c a j ≤ j * 100
  | 0, _ => by simp [sC]
  | j + 1, hj => by
    have := sC_bound h ha j (by omega)
    have := h.range a j ha (by omega)
    unfold sC; omega
theorem pS_bound {r n : Nat} {c : Nat → Nat → Int} (h : RTab r n c) {f : Nat → Nat} (hf : ∀ a, f a ≤ n) : ∀ a, a ≤ r → 0 ≤ pS c f a ∧ pS c f a ≤ a * 600
  | 0, _ => by simp [pS]
  | a + 1, ha => by
    have := pS_bound h hf a (by omega)
    have := sC_bound h (a := a) (by omega) (f a) (hf a)
    have := hf a
    have := h.n6
    unfold pS; omega
theorem pS_congr {c : Nat → Nat → Int} {f g : Nat → Nat} : ∀ r, (∀ a, a < r → f a = g a) → pS c f r = pS c g r
  | 0, _ => rfl
  | a + 1, h => by unfold pS; rw [pS_congr a fun b hb => h b (by omega), h a (by omega)]
theorem pS_add {c : Nat → Nat → Int} {f g : Nat → Nat} {x : Nat} (hx : g x = f x + 1) (ho : ∀ a, a ≠ x → g a = f a) : ∀ r, x < r → pS c g r = pS c f r + c x (f x)
  | 0, h => absurd h (Nat.not_lt_zero _)
  | a + 1, h => by
    unfold pS
    by_cases ha : a = x
    · subst ha
      rw [pS_congr a fun b hb => ho b (by omega), hx, sC]; omega
    · rw [pS_add hx ho a (by omega), ho a ha]; omega
theorem height_spec (r n : Nat) (c : Nat → Nat → Int) (v : List Nat) (h : RTab r n c) (hv : WOk r n v) (hC : FnSpec Sy.P 85 [rdS (mtx r n c), .sl false 1 ((nj v).map .int)] [rdS (mtx r n c), .sl false 1 ((nj v).map .int)] (.int 0)) : FnSpec Sy.P 81 [rdS (mtx r n c), .sl false 1 ((nj v).map .int)] [rdS (mtx r n c), .sl false 1 ((nj v).map .int)] (.tup [.int (pS c (fun a => v.count a) r), .int 0]) := by
  have h1 := h.r1; have h2 := h.r4; have h3 := h.n6; have h4 := hv.len
  have hvl := nj_length (m := v)
  have hL := load_spec r n c v h hv
  have hf : ∀ a, v.count a ≤ n := fun a => by have := List.count_le_length (a := a) (l := v); omega
  have hll := ld_length (r := r) (v := v)
  have hnl := nj_length (m := ld r v)
  refine FnSpec.enter (S := Sy) 0 Try.func81 rfl rfl rfl Try.ntmps81 rfl rfl rfl rfl fun v0 => ?_
  (repeat' (first | ((with_reducible apply J.step); rfl; exact FM.st) | ((with_reducible apply J.eff); rfl; exact FM.ef) | ((with_reducible apply J.callP (hC)); rfl; rfl; (repeat' (first | exact ArgsOk.nil | apply ArgsOk.cons | exact ArgOk.pl rfl rfl | exact ArgOk.br rfl AV.noConfusion (by first | rfl | exact sh_int | exact sh_rows | exact sh_rowsO))); (first | rfl | exact (fun h => Bool.noConfusion h) | exact (fun _ => noSh_ints) | exact (fun _ => noSh_rows) | exact (fun _ => NoSh.int) | exact (fun _ => NoSh.bool) | exact (fun _ => NoSh.nil) | exact (fun _ => noSh_tup2 (by first | exact noSh_ints | exact noSh_rows | exact NoSh.nil | exact NoSh.int | exact NoSh.bool) (by first | exact noSh_ints | exact NoSh.int | exact NoSh.bool | exact noSh_rows | exact NoSh.nil)) | exact (fun _ => noSh_tup3 (by first | exact noSh_ints | exact noSh_rows | exact NoSh.nil | exact NoSh.int | exact NoSh.bool) (by first | exact noSh_ints | exact NoSh.int | exact NoSh.bool | exact noSh_rows | exact NoSh.nil) (by first | exact noSh_ints | exact NoSh.int | exact NoSh.bool | exact noSh_rows | exact NoSh.nil)))) | ((with_reducible apply J.callPQ (hC)); rfl; rfl; (repeat' (first | exact ArgsOk.nil | apply ArgsOk.cons | exact ArgOk.pl rfl rfl | exact ArgOk.br rfl AV.noConfusion (by first | rfl | exact sh_int | exact sh_rows | exact sh_rowsO))); rfl) | ((with_reducible apply J.callP (hL)); rfl; rfl; (repeat' (first | exact ArgsOk.nil | apply ArgsOk.cons | exact ArgOk.pl rfl rfl | exact ArgOk.br rfl AV.noConfusion (by first | rfl | exact sh_int | exact sh_rows | exact sh_rowsO))); (first | rfl | exact (fun h => Bool.noConfusion h) | exact (fun _ => noSh_ints) | exact (fun _ => noSh_rows) | exact (fun _ => NoSh.int) | exact (fun _ => NoSh.bool) | exact (fun _ => NoSh.nil) | exact (fun _ => noSh_tup2 (by first | exact noSh_ints | exact noSh_rows | exact NoSh.nil | exact NoSh.int | exact NoSh.bool) (by first | exact noSh_ints | exact NoSh.int | exact NoSh.bool | exact noSh_rows | exact NoSh.nil)) | exact (fun _ => noSh_tup3 (by first | exact noSh_ints | exact noSh_rows | exact NoSh.nil | exact NoSh.int | exact NoSh.bool) (by first | exact noSh_ints | exact NoSh.int | exact NoSh.bool | exact noSh_rows | exact NoSh.nil) (by first | exact noSh_ints | exact NoSh.int | exact NoSh.bool | exact noSh_rows | exact NoSh.nil)))) | ((with_reducible apply J.callPQ (hL)); rfl; rfl; (repeat' (first | exact ArgsOk.nil | apply ArgsOk.cons | exact ArgOk.pl rfl rfl | exact ArgOk.br rfl AV.noConfusion (by first | rfl | exact sh_int | exact sh_rows | exact sh_rowsO))); rfl) | ((with_reducible apply J.eqNil); rfl; rfl; rfl; rfl; intro bnil hbnil) | (refine J.takeRow rfl rfl AV.noConfusion rfl (by first | assumption | (simp only [List.length_map]; omega)) ?_) | with_reducible refine J.nil ?_ | ((with_reducible apply J.skipV); rfl; rfl; rfl) | ((with_reducible apply J.skipU); rfl; rfl) | with_reducible refine CW.seq ?_ | with_reducible refine CW.block ?_ | ((with_reducible refine CW.reg ?_ ?_); rfl) | ((with_reducible refine CW.regQN ?_ ?_ ?_ ?_); rfl; kernel_rfl; rfl) | ((with_reducible refine CW.regS 1 ?_ ?_ ?_); kernel_rfl; rfl; simp only [List.length_cons, List.length_nil, Nat.reduceAdd, Nat.reduceSub, List.take_succ_cons, List.take_zero, List.drop_succ_cons, List.drop_zero]) | with_reducible refine CW.skip ?_ | with_reducible refine CW.ret ?_ | with_reducible refine CW.exit ?_ | refine CW.condT rfl ?_ | refine CW.condF rfl ?_ | (refine CW.condD rfl (fun _ => ?_) (fun _ => ?_) <;> (try (exfalso; omega))) | (refine CW.cond rfl (fun _ => ?_) (fun _ => ?_) <;> (try (exfalso; simp only [decide_eq_true_eq, decide_eq_false_iff_not, Bool.and_eq_true, Bool.or_eq_true] at *; omega))) | with_reducible refine thenQ_n ?_ | with_reducible refine blockQ_n ?_ | ((with_reducible refine blockQ_e ?_ ?_); rfl) | ((with_reducible refine blockQ_x ?_ ?_); rfl) | with_reducible refine blockQ_r ?_ | with_reducible refine thenQ_x ?_ | with_reducible refine thenQ_r ?_ | ((fail_if_success ((with_reducible apply J.step); rfl)); (fail_if_success ((with_reducible apply J.skipU); rfl)); refine J.splitG rfl rfl (fun _ => ?_) (fun _ => ?_) <;> (try (exfalso; omega))) | ((fail_if_success ((with_reducible apply J.step); rfl)); (fail_if_success ((with_reducible apply J.skipU); rfl)); refine J.splitB rfl rfl (fun _ => ?_) (fun _ => ?_))))
  refine CW.loop (fun a : Nat => [(0, .av (rdS (mtx r n c))), (7, .av (.int (pS c (fun a => v.count a) a))), (20, .av (.sl true 1 ((nj (ld r v)).map .int))), (21, .av (.int (r))), (22, .av (.int (a)))]) (fun a => a ≤ r) (fun a => r - a) (0) ?_ (by (repeat' (first | exact trivial | rfl | refine And.intro ?_ ?_ | exact int_congr (by omega) | exact ints_congr (by first | assumption | exact Eq.symm (by assumption)) | exact int_congr (by assumption) | exact bool_congr (by first | assumption | exact Eq.symm (by assumption)) | exact map_congr' (by first | assumption | exact Eq.symm (by assumption))))) ?_
  · exact Nat.zero_le _
  intro a ha
  have hb := pS_bound h hf a ha
  by_cases hal : a < r
  · have g1 := mtx_get (m := n) (f := c) hal
    have g2 := nj_get (ld_get (r := r) (v := v) hal)
    have hrl : (tb n (c a)).length = n := tb_length
    have hca := hf a
    have e1 : pS c (fun a => v.count a) (a + 1) = pS c (fun a => v.count a) a + sC c a (v.count a) := rfl
    have e0 : pS c (fun a => v.count a) a = pS c (fun a => v.count a) a + sC c a 0 := by simp [sC]
    generalize v.count a = m at *
    have htl : ((tb n (c a)).take ((m : Int)).toNat).length = m := by rw [List.length_take]; omega
    generalize pS c (fun a => v.count a) a = P at *
    (repeat' (first | ((with_reducible apply J.step); rfl; exact FM.st) | ((with_reducible apply J.eff); rfl; exact FM.ef) | ((with_reducible apply J.eqNil); rfl; rfl; rfl; rfl; intro bnil hbnil) | (refine J.takeRow rfl rfl AV.noConfusion rfl (by first | assumption | (simp only [List.length_map]; omega)) ?_) | with_reducible refine J.nil ?_ | ((with_reducible apply J.skipV); rfl; rfl; rfl) | ((with_reducible apply J.skipU); rfl; rfl) | with_reducible refine CW.seq ?_ | with_reducible refine CW.block ?_ | ((with_reducible refine CW.reg ?_ ?_); rfl) | ((with_reducible refine CW.regQN ?_ ?_ ?_ ?_); rfl; kernel_rfl; rfl) | ((with_reducible refine CW.regS 1 ?_ ?_ ?_); kernel_rfl; rfl; simp only [List.length_cons, List.length_nil, Nat.reduceAdd, Nat.reduceSub, List.take_succ_cons, List.take_zero, List.drop_succ_cons, List.drop_zero]) | with_reducible refine CW.skip ?_ | with_reducible refine CW.ret ?_ | with_reducible refine CW.exit ?_ | refine CW.condT rfl ?_ | refine CW.condF rfl ?_ | (refine CW.condD rfl (fun _ => ?_) (fun _ => ?_) <;> (try (exfalso; omega))) | (refine CW.cond rfl (fun _ => ?_) (fun _ => ?_) <;> (try (exfalso; simp only [decide_eq_true_eq, decide_eq_false_iff_not, Bool.and_eq_true, Bool.or_eq_true] at *; omega))) | with_reducible refine thenQ_n ?_ | with_reducible refine blockQ_n ?_ | ((with_reducible refine blockQ_e ?_ ?_); rfl) | ((with_reducible refine blockQ_x ?_ ?_); rfl) | with_reducible refine blockQ_r ?_ | with_reducible refine thenQ_x ?_ | with_reducible refine thenQ_r ?_ | ((fail_if_success ((with_reducible apply J.step); rfl)); (fail_if_success ((with_reducible apply J.skipU); rfl)); refine J.splitG rfl rfl (fun _ => ?_) (fun _ => ?_) <;> (try (exfalso; omega))) | ((fail_if_success ((with_reducible apply J.step); rfl)); (fail_if_success ((with_reducible apply J.skipU); rfl)); refine J.splitB rfl rfl (fun _ => ?_) (fun _ => ?_))))
    refine CW.loop (fun j : Nat => [(0, .av (rdS (mtx r n c))), (7, .av (.int (P + sC c a j))), (20, .av (.sl true 1 ((nj (ld r v)).map .int))), (21, .av (.int (r))), (22, .av (.int (a))), (33, .av (.sl false 1 (((tb n (c a)).take ((m : Int)).toNat).map .int))), (34, .av (.int (m))), (35, .av (.int (j)))]) (fun j => j ≤ m) (fun j => m - j) (0) ?_ (by (repeat' (first | exact trivial | rfl | refine And.intro ?_ ?_ | exact int_congr (by omega) | exact ints_congr (by first | assumption | exact Eq.symm (by assumption)) | exact int_congr (by assumption) | exact bool_congr (by first | assumption | exact Eq.symm (by assumption)) | exact map_congr' (by first | assumption | exact Eq.symm (by assumption))))) ?_
    · exact Nat.zero_le _
    intro j hj
    have hsb := sC_bound h hal j (by omega)
    by_cases hjl : j < m
    · have g3 : ((tb n (c a)).take ((m : Int)).toNat)[j]? = some (c a j) := by
        rw [List.getElem?_take, if_pos (by omega)]; exact tb_get (by omega)
      have hr := h.range a j hal (by omega)
      have e2 : sC c a (j + 1) = sC c a j + c a j := rfl
      (repeat' (first | ((with_reducible apply J.step); rfl; exact FM.st) | ((with_reducible apply J.eff); rfl; exact FM.ef) | ((with_reducible apply J.eqNil); rfl; rfl; rfl; rfl; intro bnil hbnil) | (refine J.takeRow rfl rfl AV.noConfusion rfl (by first | assumption | (simp only [List.length_map]; omega)) ?_) | with_reducible refine J.nil ?_ | ((with_reducible apply J.skipV); rfl; rfl; rfl) | ((with_reducible apply J.skipU); rfl; rfl) | with_reducible refine CW.seq ?_ | with_reducible refine CW.block ?_ | ((with_reducible refine CW.reg ?_ ?_); rfl) | ((with_reducible refine CW.regQN ?_ ?_ ?_ ?_); rfl; kernel_rfl; rfl) | ((with_reducible refine CW.regS 1 ?_ ?_ ?_); kernel_rfl; rfl; simp only [List.length_cons, List.length_nil, Nat.reduceAdd, Nat.reduceSub, List.take_succ_cons, List.take_zero, List.drop_succ_cons, List.drop_zero]) | with_reducible refine CW.skip ?_ | with_reducible refine CW.ret ?_ | with_reducible refine CW.exit ?_ | refine CW.condT rfl ?_ | refine CW.condF rfl ?_ | (refine CW.condD rfl (fun _ => ?_) (fun _ => ?_) <;> (try (exfalso; omega))) | (refine CW.cond rfl (fun _ => ?_) (fun _ => ?_) <;> (try (exfalso; simp only [decide_eq_true_eq, decide_eq_false_iff_not, Bool.and_eq_true, Bool.or_eq_true] at *; omega))) | with_reducible refine thenQ_n ?_ | with_reducible refine blockQ_n ?_ | ((with_reducible refine blockQ_e ?_ ?_); rfl) | ((with_reducible refine blockQ_x ?_ ?_); rfl) | with_reducible refine blockQ_r ?_ | with_reducible refine thenQ_x ?_ | with_reducible refine thenQ_r ?_ | ((fail_if_success ((with_reducible apply J.step); rfl)); (fail_if_success ((with_reducible apply J.skipU); rfl)); refine J.splitG rfl rfl (fun _ => ?_) (fun _ => ?_) <;> (try (exfalso; omega))) | ((fail_if_success ((with_reducible apply J.step); rfl)); (fail_if_success ((with_reducible apply J.skipU); rfl)); refine J.splitB rfl rfl (fun _ => ?_) (fun _ => ?_))))
      refine ⟨j+1, ?_, by omega, by (repeat' (first | exact trivial | rfl | refine And.intro ?_ ?_ | exact int_congr (by omega) | exact ints_congr (by first | assumption | exact Eq.symm (by assumption)) | exact int_congr (by assumption) | exact bool_congr (by first | assumption | exact Eq.symm (by assumption)) | exact map_congr' (by first | assumption | exact Eq.symm (by assumption))))⟩
      omega
    · obtain rfl : j = m := by omega
      (repeat' (first | ((with_reducible apply J.step); rfl; exact FM.st) | ((with_reducible apply J.eff); rfl; exact FM.ef) | ((with_reducible apply J.eqNil); rfl; rfl; rfl; rfl; intro bnil hbnil) | (refine J.takeRow rfl rfl AV.noConfusion rfl (by first | assumption | (simp only [List.length_map]; omega)) ?_) | with_reducible refine J.nil ?_ | ((with_reducible apply J.skipV); rfl; rfl; rfl) | ((with_reducible apply J.skipU); rfl; rfl) | with_reducible refine CW.seq ?_ | with_reducible refine CW.block ?_ | ((with_reducible refine CW.reg ?_ ?_); rfl) | ((with_reducible refine CW.regQN ?_ ?_ ?_ ?_); rfl; kernel_rfl; rfl) | ((with_reducible refine CW.regS 1 ?_ ?_ ?_); kernel_rfl; rfl; simp only [List.length_cons, List.length_nil, Nat.reduceAdd, Nat.reduceSub, List.take_succ_cons, List.take_zero, List.drop_succ_cons, List.drop_zero]) | with_reducible refine CW.skip ?_ | with_reducible refine CW.ret ?_ | with_reducible refine CW.exit ?_ | refine CW.condT rfl ?_ | refine CW.condF rfl ?_ | (refine CW.condD rfl (fun _ => ?_) (fun _ => ?_) <;> (try (exfalso; omega))) | (refine CW.cond rfl (fun _ => ?_) (fun _ => ?_) <;> (try (exfalso; simp only [decide_eq_true_eq, decide_eq_false_iff_not, Bool.and_eq_true, Bool.or_eq_true] at *; omega))) | with_reducible refine thenQ_n ?_ | with_reducible refine blockQ_n ?_ | ((with_reducible refine blockQ_e ?_ ?_); rfl) | ((with_reducible refine blockQ_x ?_ ?_); rfl) | with_reducible refine blockQ_r ?_ | with_reducible refine thenQ_x ?_ | with_reducible refine thenQ_r ?_ | ((fail_if_success ((with_reducible apply J.step); rfl)); (fail_if_success ((with_reducible apply J.skipU); rfl)); refine J.splitG rfl rfl (fun _ => ?_) (fun _ => ?_) <;> (try (exfalso; omega))) | ((fail_if_success ((with_reducible apply J.step); rfl)); (fail_if_success ((with_reducible apply J.skipU); rfl)); refine J.splitB rfl rfl (fun _ => ?_) (fun _ => ?_))))
      refine ⟨a+1, ?_, by omega, by (repeat' (first | exact trivial | rfl | refine And.intro ?_ ?_ | exact int_congr (by omega) | exact ints_congr (by first | assumption | exact Eq.symm (by assumption)) | exact int_congr (by assumption) | exact bool_congr (by first | assumption | exact Eq.symm (by assumption)) | exact map_congr' (by first | assumption | exact Eq.symm (by assumption))))⟩
      omega
  · obtain rfl : a = r := by omega
    (repeat' (first | ((with_reducible apply J.step); rfl; exact FM.st) | ((with_reducible apply J.eff); rfl; exact FM.ef) | ((with_reducible apply J.eqNil); rfl; rfl; rfl; rfl; intro bnil hbnil) | (refine J.takeRow rfl rfl AV.noConfusion rfl (by first | assumption | (simp only [List.length_map]; omega)) ?_) | with_reducible refine J.nil ?_ | ((with_reducible apply J.skipV); rfl; rfl; rfl) | ((with_reducible apply J.skipU); rfl; rfl) | with_reducible refine CW.seq ?_ | with_reducible refine CW.block ?_ | ((with_reducible refine CW.reg ?_ ?_); rfl) | ((with_reducible refine CW.regQN ?_ ?_ ?_ ?_); rfl; kernel_rfl; rfl) | ((with_reducible refine CW.regS 1 ?_ ?_ ?_); kernel_rfl; rfl; simp only [List.length_cons, List.length_nil, Nat.reduceAdd, Nat.reduceSub, List.take_succ_cons, List.take_zero, List.drop_succ_cons, List.drop_zero]) | with_reducible refine CW.skip ?_ | with_reducible refine CW.ret ?_ | with_reducible refine CW.exit ?_ | refine CW.condT rfl ?_ | refine CW.condF rfl ?_ | (refine CW.condD rfl (fun _ => ?_) (fun _ => ?_) <;> (try (exfalso; omega))) | (refine CW.cond rfl (fun _ => ?_) (fun _ => ?_) <;> (try (exfalso; simp only [decide_eq_true_eq, decide_eq_false_iff_not, Bool.and_eq_true, Bool.or_eq_true] at *; omega))) | with_reducible refine thenQ_n ?_ | with_reducible refine blockQ_n ?_ | ((with_reducible refine blockQ_e ?_ ?_); rfl) | ((with_reducible refine blockQ_x ?_ ?_); rfl) | with_reducible refine blockQ_r ?_ | with_reducible refine thenQ_x ?_ | with_reducible refine thenQ_r ?_ | ((fail_if_success ((with_reducible apply J.step); rfl)); (fail_if_success ((with_reducible apply J.skipU); rfl)); refine J.splitG rfl rfl (fun _ => ?_) (fun _ => ?_) <;> (try (exfalso; omega))) | ((fail_if_success ((with_reducible apply J.step); rfl)); (fail_if_success ((with_reducible apply J.skipU); rfl)); refine J.splitB rfl rfl (fun _ => ?_) (fun _ => ?_))))
    exact .mk rfl rfl rfl
theorem heightOf_spec (r n : Nat) (c : Nat → Nat → Int) (v : List Nat) (h : RTab r n c) (hv : WOk r n v) : FnSpec Sy.P 86 [rdS (mtx r n c), .sl false 1 ((nj v).map .int)] [rdS (mtx r n c), .sl false 1 ((nj v).map .int)] (.int (pS c (fun a => v.count a) r)) := by
  have h1 := h.r1; have h2 := h.r4; have h3 := h.n6; have h4 := hv.len
  have hvl := nj_length (m := v)
  have hz : pS c (fun a => (v.take 0).count a) r = 0 := by
    have : ∀ r, pS c (fun a => (v.take 0).count a) r = 0 := fun r => by
      induction r with
      | zero => rfl
      | succ r ih => unfold pS; rw [ih]; simp [sC]
    exact this r
  refine FnSpec.enter (S := Sy) 0 Try.func86 rfl rfl rfl Try.ntmps86 rfl rfl rfl rfl fun v0 => ?_
  (repeat' (first | ((with_reducible apply J.step); rfl; exact FM.st) | ((with_reducible apply J.eff); rfl; exact FM.ef) | ((with_reducible apply J.eqNil); rfl; rfl; rfl; rfl; intro bnil hbnil) | (refine J.takeRow rfl rfl AV.noConfusion rfl (by first | assumption | (simp only [List.length_map]; omega)) ?_) | with_reducible refine J.nil ?_ | ((with_reducible apply J.skipV); rfl; rfl; rfl) | ((with_reducible apply J.skipU); rfl; rfl) | with_reducible refine CW.seq ?_ | with_reducible refine CW.block ?_ | ((with_reducible refine CW.reg ?_ ?_); rfl) | ((with_reducible refine CW.regQN ?_ ?_ ?_ ?_); rfl; kernel_rfl; rfl) | ((with_reducible refine CW.regS 1 ?_ ?_ ?_); kernel_rfl; rfl; simp only [List.length_cons, List.length_nil, Nat.reduceAdd, Nat.reduceSub, List.take_succ_cons, List.take_zero, List.drop_succ_cons, List.drop_zero]) | with_reducible refine CW.skip ?_ | with_reducible refine CW.ret ?_ | with_reducible refine CW.exit ?_ | refine CW.condT rfl ?_ | refine CW.condF rfl ?_ | (refine CW.condD rfl (fun _ => ?_) (fun _ => ?_) <;> (try (exfalso; omega))) | (refine CW.cond rfl (fun _ => ?_) (fun _ => ?_) <;> (try (exfalso; simp only [decide_eq_true_eq, decide_eq_false_iff_not, Bool.and_eq_true, Bool.or_eq_true] at *; omega))) | with_reducible refine thenQ_n ?_ | with_reducible refine blockQ_n ?_ | ((with_reducible refine blockQ_e ?_ ?_); rfl) | ((with_reducible refine blockQ_x ?_ ?_); rfl) | with_reducible refine blockQ_r ?_ | with_reducible refine thenQ_x ?_ | with_reducible refine thenQ_r ?_ | ((fail_if_success ((with_reducible apply J.step); rfl)); (fail_if_success ((with_reducible apply J.skipU); rfl)); refine J.splitG rfl rfl (fun _ => ?_) (fun _ => ?_) <;> (try (exfalso; omega))) | ((fail_if_success ((with_reducible apply J.step); rfl)); (fail_if_success ((with_reducible apply J.skipU); rfl)); refine J.splitB rfl rfl (fun _ => ?_) (fun _ => ?_))))
  refine CW.loop (fun i : Nat => [(0, .av (rdS (mtx r n c))), (1, .av (.sl false 1 ((nj v).map .int))), (5, .av (.int (pS c (fun a => (v.take i).count a) r))), (8, .av (.int (v.length))), (9, .av (.int (i)))]) (fun i => i ≤ v.length) (fun i => v.length - i) (0) ?_ (by (repeat' (first | exact trivial | rfl | refine And.intro ?_ ?_ | exact int_congr (by omega) | exact ints_congr (by first | assumption | exact Eq.symm (by assumption)) | exact int_congr (by assumption) | exact bool_congr (by first | assumption | exact Eq.symm (by assumption)) | exact map_congr' (by first | assumption | exact Eq.symm (by assumption))))) ?_
  · exact Nat.zero_le _
  intro i hi
  have hb := pS_bound h (f := fun a => (v.take i).count a) (fun a => by have := List.count_le_length (a := a) (l := v.take i); rw [List.length_take] at this; show (v.take i).count a ≤ n; omega) r (Nat.le_refl _)
  by_cases hil : i < v.length
  · have hx0 : v[i]? = some v[i] := List.getElem?_eq_getElem hil
    have hlt := hv.lt _ (List.getElem_mem hil)
    have hxt : (v.take (i + 1))[i]? = some v[i] := by rw [List.getElem?_take, if_pos (by omega)]; exact hx0
    have hCo := costOf_spec r n c h (v.take (i + 1)) (by rw [List.length_take]; omega) (fun x hx => hv.lt x (List.mem_of_mem_take hx)) i (by rw [List.length_take]; omega)
    have hcount : ∀ a, (v.take (i + 1)).count a = (v.take i).count a + if v[i] = a then 1 else 0 := fun a => by
      rw [List.take_succ_eq_append_getElem hil, List.count_append, List.count_singleton]
      congr 1
      by_cases hc : v[i] = a <;> simp [hc]
    have e1 := pS_add (c := c) (f := fun a => (v.take i).count a) (g := fun a => (v.take (i + 1)).count a) (x := v[i]) (by show (v.take (i + 1)).count v[i] = (v.take i).count v[i] + 1; rw [hcount, if_pos rfl]) (fun a ha => by show (v.take (i + 1)).count a = (v.take i).count a; rw [hcount, if_neg (fun e => ha e.symm)]; omega) r hlt
    rw [cst_at hxt, hcount, if_pos rfl, Nat.add_sub_cancel] at hCo
    have hcl := List.count_le_length (a := v[i]) (l := v.take i)
    rw [List.length_take] at hcl
    have hr := h.range v[i] ((v.take i).count v[i]) hlt (by omega)
    rw [← nj_take, show i + 1 = ((i : Int) + 1).toNat by omega] at hCo
    generalize c v[i] ((v.take i).count v[i]) = q at *
    (repeat' (first | ((with_reducible apply J.step); rfl; exact FM.st) | ((with_reducible apply J.eff); rfl; exact FM.ef) | ((with_reducible apply J.callP (hCo)); rfl; rfl; (repeat' (first | exact ArgsOk.nil | apply ArgsOk.cons | exact ArgOk.pl rfl rfl | exact ArgOk.br rfl AV.noConfusion (by first | rfl | exact sh_int | exact sh_rows | exact sh_rowsO))); (first | rfl | exact (fun h => Bool.noConfusion h) | exact (fun _ => noSh_ints) | exact (fun _ => noSh_rows) | exact (fun _ => NoSh.int) | exact (fun _ => NoSh.bool) | exact (fun _ => NoSh.nil) | exact (fun _ => noSh_tup2 (by first | exact noSh_ints | exact noSh_rows | exact NoSh.nil | exact NoSh.int | exact NoSh.bool) (by first | exact noSh_ints | exact NoSh.int | exact NoSh.bool | exact noSh_rows | exact NoSh.nil)) | exact (fun _ => noSh_tup3 (by first | exact noSh_ints | exact noSh_rows | exact NoSh.nil | exact NoSh.int | exact NoSh.bool) (by first | exact noSh_ints | exact NoSh.int | exact NoSh.bool | exact noSh_rows | exact NoSh.nil) (by first | exact noSh_ints | exact NoSh.int | exact NoSh.bool | exact noSh_rows | exact NoSh.nil)))) | ((with_reducible apply J.callPQ (hCo)); rfl; rfl; (repeat' (first | exact ArgsOk.nil | apply ArgsOk.cons | exact ArgOk.pl rfl rfl | exact ArgOk.br rfl AV.noConfusion (by first | rfl | exact sh_int | exact sh_rows | exact sh_rowsO))); rfl) | ((with_reducible apply J.eqNil); rfl; rfl; rfl; rfl; intro bnil hbnil) | (refine J.takeRow rfl rfl AV.noConfusion rfl (by first | assumption | (simp only [List.length_map]; omega)) ?_) | with_reducible refine J.nil ?_ | ((with_reducible apply J.skipV); rfl; rfl; rfl) | ((with_reducible apply J.skipU); rfl; rfl) | with_reducible refine CW.seq ?_ | with_reducible refine CW.block ?_ | ((with_reducible refine CW.reg ?_ ?_); rfl) | ((with_reducible refine CW.regQN ?_ ?_ ?_ ?_); rfl; kernel_rfl; rfl) | ((with_reducible refine CW.regS 1 ?_ ?_ ?_); kernel_rfl; rfl; simp only [List.length_cons, List.length_nil, Nat.reduceAdd, Nat.reduceSub, List.take_succ_cons, List.take_zero, List.drop_succ_cons, List.drop_zero]) | with_reducible refine CW.skip ?_ | with_reducible refine CW.ret ?_ | with_reducible refine CW.exit ?_ | refine CW.condT rfl ?_ | refine CW.condF rfl ?_ | (refine CW.condD rfl (fun _ => ?_) (fun _ => ?_) <;> (try (exfalso; omega))) | (refine CW.cond rfl (fun _ => ?_) (fun _ => ?_) <;> (try (exfalso; simp only [decide_eq_true_eq, decide_eq_false_iff_not, Bool.and_eq_true, Bool.or_eq_true] at *; omega))) | with_reducible refine thenQ_n ?_ | with_reducible refine blockQ_n ?_ | ((with_reducible refine blockQ_e ?_ ?_); rfl) | ((with_reducible refine blockQ_x ?_ ?_); rfl) | with_reducible refine blockQ_r ?_ | with_reducible refine thenQ_x ?_ | with_reducible refine thenQ_r ?_ | ((fail_if_success ((with_reducible apply J.step); rfl)); (fail_if_success ((with_reducible apply J.skipU); rfl)); refine J.splitG rfl rfl (fun _ => ?_) (fun _ => ?_) <;> (try (exfalso; omega))) | ((fail_if_success ((with_reducible apply J.step); rfl)); (fail_if_success ((with_reducible apply J.skipU); rfl)); refine J.splitB rfl rfl (fun _ => ?_) (fun _ => ?_))))
    refine ⟨i+1, ?_, by omega, by (repeat' (first | exact trivial | rfl | refine And.intro ?_ ?_ | exact int_congr (by omega) | exact ints_congr (by first | assumption | exact Eq.symm (by assumption)) | exact int_congr (by assumption) | exact bool_congr (by first | assumption | exact Eq.symm (by assumption)) | exact map_congr' (by first | assumption | exact Eq.symm (by assumption))))⟩
    omega
  · obtain rfl : i = v.length := by omega
    rw [List.take_length]
    (repeat' (first | ((with_reducible apply J.step); rfl; exact FM.st) | ((with_reducible apply J.eff); rfl; exact FM.ef) | ((with_reducible apply J.eqNil); rfl; rfl; rfl; rfl; intro bnil hbnil) | (refine J.takeRow rfl rfl AV.noConfusion rfl (by first | assumption | (simp only [List.length_map]; omega)) ?_) | with_reducible refine J.nil ?_ | ((with_reducible apply J.skipV); rfl; rfl; rfl) | ((with_reducible apply J.skipU); rfl; rfl) | with_reducible refine CW.seq ?_ | with_reducible refine CW.block ?_ | ((with_reducible refine CW.reg ?_ ?_); rfl) | ((with_reducible refine CW.regQN ?_ ?_ ?_ ?_); rfl; kernel_rfl; rfl) | ((with_reducible refine CW.regS 1 ?_ ?_ ?_); kernel_rfl; rfl; simp only [List.length_cons, List.length_nil, Nat.reduceAdd, Nat.reduceSub, List.take_succ_cons, List.take_zero, List.drop_succ_cons, List.drop_zero]) | with_reducible refine CW.skip ?_ | with_reducible refine CW.ret ?_ | with_reducible refine CW.exit ?_ | refine CW.condT rfl ?_ | refine CW.condF rfl ?_ | (refine CW.condD rfl (fun _ => ?_) (fun _ => ?_) <;> (try (exfalso; omega))) | (refine CW.cond rfl (fun _ => ?_) (fun _ => ?_) <;> (try (exfalso; simp only [decide_eq_true_eq, decide_eq_false_iff_not, Bool.and_eq_true, Bool.or_eq_true] at *; omega))) | with_reducible refine thenQ_n ?_ | with_reducible refine blockQ_n ?_ | ((with_reducible refine blockQ_e ?_ ?_); rfl) | ((with_reducible refine blockQ_x ?_ ?_); rfl) | with_reducible refine blockQ_r ?_ | with_reducible refine thenQ_x ?_ | with_reducible refine thenQ_r ?_ | ((fail_if_success ((with_reducible apply J.step); rfl)); (fail_if_success ((with_reducible apply J.skipU); rfl)); refine J.splitG rfl rfl (fun _ => ?_) (fun _ => ?_) <;> (try (exfalso; omega))) | ((fail_if_success ((with_reducible apply J.step); rfl)); (fail_if_success ((with_reducible apply J.skipU); rfl)); refine J.splitB rfl rfl (fun _ => ?_) (fun _ => ?_))))
    exact .mk rfl rfl rfl
end Go.Proofs.Ytioodlkigdklhaa
