/- Packing: the table of the program, walked. -/
import Derived.Test.YtglbicbaplejeaaKc
namespace Go.Proofs.Ytglbicbaplejeaa
open Go FM
set_option maxRecDepth 10000
set_option maxHeartbeats 3200000
set_option linter.all false
theorem le_nils_set {n k : Nat} {r : List Int} : AV.le (.sl true 1 ((List.replicate n .nil).set k (.sl true 1 (r.map .int)))) (.sl true 1 (((List.replicate n ([] : List Int)).set k r).map fun r => .sl true 1 (r.map .int))) := by
  refine .sl (by simp) (fun x hx => ?_) (fun y hy => ?_) (fun i x y hx hy => ?_)
  · rcases List.mem_or_eq_of_mem_set hx with h | h
    · rw [(List.mem_replicate.1 h).2]; rfl
    · rw [h]; rfl
  · obtain ⟨r, _, rfl⟩ := List.mem_map.1 hy; rfl
  · rw [List.getElem?_map, Option.map_eq_some_iff] at hy
    obtain ⟨q, hq, rfl⟩ := hy
    rw [List.getElem?_set] at hx hq
    by_cases h : k = i
    · subst h
      rw [if_pos rfl] at hx hq
      rw [List.length_replicate] at hx hq
      split at hx
      · rename_i h1
        rw [if_pos h1] at hq
        injection hx with hx; injection hq with hq
        subst hx; subst hq; exact .refl _
      · cases hx
    · rw [if_neg h] at hx hq
      have h1 := (List.mem_replicate.1 (List.mem_of_getElem? hx)).2
      have h2 := (List.mem_replicate.1 (List.mem_of_getElem? hq)).2
      subst h1; subst h2; exact .nil
theorem le_nils_set2 {n k : Nat} {r : List Int} : AV.le (.sl true 1 (((List.replicate n .nil).set k .dead).set k (.sl true 1 (r.map .int)))) (.sl true 1 (((List.replicate n ([] : List Int)).set k r).map fun r => .sl true 1 (r.map .int))) := by
  rw [List.set_set]; exact le_nils_set
def kf (l : List It) (a b : Nat) : Int := bv (l.drop a) b
def inK (n m : Nat) (f : Nat → Nat → Int) (i : Nat) : List (List Int) := tb (n + 1) fun a => if a < i then [] else tb m (f a)
def inR (m : Nat) (f : Nat → Nat → Int) (i b0 : Nat) : List Int := tb m fun b => if b < b0 then f i b else 0
def inKR (n m : Nat) (f : Nat → Nat → Int) (i b0 : Nat) : List (List Int) := tb (n + 1) fun a => if a < i then [] else if a = i then inR m f i b0 else tb m (f a)
theorem inK_start {n m : Nat} {f : Nat → Nat → Int} (h : ∀ b, f n b = 0) : (List.replicate (n + 1) ([] : List Int)).set n (List.replicate m 0) = inK n m f n := by
  rw [tb_replicate, tb_set]
  refine tb_congr fun a ha => ?_
  by_cases e : a = n
  · subst e; rw [if_pos rfl, if_neg (Nat.lt_irrefl _), tb_replicate]; exact tb_congr fun b _ => (h b).symm
  · rw [if_neg e, if_pos (by omega)]
theorem inK_set {n m : Nat} {f : Nat → Nat → Int} {i : Nat} : (inK n m f (i + 1)).set i (List.replicate m 0) = inKR n m f i 0 := by
  unfold inK inKR
  rw [tb_set]
  refine tb_congr fun a _ => ?_
  by_cases e : a = i
  · subst e; rw [if_pos rfl, if_neg (Nat.lt_irrefl _), if_pos rfl, tb_replicate]; exact tb_congr fun b _ => by simp
  · rw [if_neg e]
    by_cases h : a < i
    · rw [if_pos (by omega), if_pos h]
    · rw [if_neg (by omega), if_neg h, if_neg e]
theorem inKR_end {n m : Nat} {f : Nat → Nat → Int} {i : Nat} : inKR n m f i m = inK n m f i := by
  unfold inK inKR
  refine tb_congr fun a _ => ?_
  by_cases h : a < i
  · rw [if_pos h, if_pos h]
  · rw [if_neg h, if_neg h]
    by_cases e : a = i
    · subst e; rw [if_pos rfl]; exact tb_congr fun b hb => by rw [if_pos hb]
    · rw [if_neg e]
theorem inKR_row {n m : Nat} {f : Nat → Nat → Int} {i b : Nat} (h : i < n + 1) : (inKR n m f i b)[i]? = some (inR m f i b) := by
  unfold inKR; rw [tb_get h, if_neg (Nat.lt_irrefl _), if_pos rfl]
theorem inKR_next {n m : Nat} {f : Nat → Nat → Int} {i b : Nat} (h : i + 1 < n + 1) : (inKR n m f i b)[i + 1]? = some (tb m (f (i + 1))) := by
  unfold inKR; rw [tb_get h, if_neg (by omega), if_neg (by omega)]
theorem inR_at {m : Nat} {f : Nat → Nat → Int} {i b : Nat} (h : b < m) : (inR m f i b)[b]? = some 0 := by
  unfold inR; rw [tb_get h, if_neg (Nat.lt_irrefl _)]
theorem inKR_set {n m : Nat} {f : Nat → Nat → Int} {i b : Nat} {v : Int} (hv : v = f i b) : (inKR n m f i b).set i ((inR m f i b).set b v) = inKR n m f i (b + 1) := by
  subst hv
  unfold inKR
  rw [tb_set]
  refine tb_congr fun a _ => ?_
  by_cases e : a = i
  · subst e
    rw [if_pos rfl, if_neg (Nat.lt_irrefl _), if_pos rfl]
    unfold inR
    rw [tb_set]
    refine tb_congr fun c _ => ?_
    by_cases hc : c = b
    · subst hc; rw [if_pos rfl, if_pos (Nat.lt_succ_self _)]
    · rw [if_neg hc]
      have : (c < b) = (c < b + 1) := by apply propext; omega
      simp only [this]
  · simp only [if_neg e]
theorem set_twice {α : Type} {l : List α} {i : Nat} {x y : α} : (l.set i x).set i y = l.set i y := List.set_set ..
theorem kf_step {l : List It} {i : Nat} (hi : i < l.length) (b : Nat) : kf l i b = if l[i].1 ≤ (b : Int) then max (kf l (i + 1) b) (l[i].2.1 + bv (l.drop (i + 1)) ((b : Int) - l[i].1)) else kf l (i + 1) b := by
  unfold kf; rw [bv_drop hi]
theorem knapMost_err (l : List It) (r : Int) (hl : l.length ≤ 9223372036854775807) (he : itE l r ≠ 0) : FnSpec Sy.P 8 [its l, .int r] [its l, .int r] (.tup [.nil, .int 0, .int (itE l r)]) := by
  have hC := knapCheck_spec l r hl
  refine FnSpec.enter (S := Sy) 0 Try.func8 rfl rfl rfl Try.ntmps8 rfl rfl rfl rfl fun v0 => ?_
  (repeat' (first | ((with_reducible apply J.step); rfl; exact FM.st) | ((with_reducible apply J.eff); rfl; exact FM.ef) | ((with_reducible apply J.callP (hC)); rfl; rfl; (repeat' (first | exact ArgsOk.nil | apply ArgsOk.cons | exact ArgOk.pl rfl rfl | exact ArgOk.br rfl AV.noConfusion (by first | rfl | exact sh_int | exact sh_rows | exact sh_rowsO | exact sh_map (fun _ => rfl)))); (first | rfl | exact (fun h => Bool.noConfusion h) | exact (fun _ => noSh_ints) | exact (fun _ => noSh_strs) | exact (fun _ => NoSh.str) | exact (fun _ => noSh_rows) | exact (fun _ => NoSh.int) | exact (fun _ => NoSh.bool) | exact (fun _ => NoSh.nil) | exact (fun _ => noSh_tup2 (by first | exact noSh_ints | exact noSh_strs | exact NoSh.str | exact noSh_rows | exact NoSh.nil | exact NoSh.int | exact NoSh.bool) (by first | exact noSh_ints | exact noSh_strs | exact NoSh.str | exact NoSh.int | exact NoSh.bool | exact noSh_rows | exact NoSh.nil)) | exact (fun _ => noSh_tup3 (by first | exact noSh_ints | exact noSh_strs | exact NoSh.str | exact noSh_rows | exact NoSh.nil | exact NoSh.int | exact NoSh.bool) (by first | exact noSh_ints | exact noSh_strs | exact NoSh.str | exact NoSh.int | exact NoSh.bool | exact noSh_rows | exact NoSh.nil) (by first | exact noSh_ints | exact noSh_strs | exact NoSh.str | exact NoSh.int | exact NoSh.bool | exact noSh_rows | exact NoSh.nil)))) | ((with_reducible apply J.callPQ (hC)); rfl; rfl; (repeat' (first | exact ArgsOk.nil | apply ArgsOk.cons | exact ArgOk.pl rfl rfl | exact ArgOk.br rfl AV.noConfusion (by first | rfl | exact sh_int | exact sh_rows | exact sh_rowsO | exact sh_map (fun _ => rfl)))); rfl) | ((with_reducible apply J.eqNil); rfl; rfl; rfl; rfl; intro bnil hbnil) | (refine J.takeRow rfl rfl AV.noConfusion rfl (by first | assumption | (simp only [List.length_map]; omega)) ?_) | with_reducible refine J.nil ?_ | ((with_reducible apply J.skipV); rfl; rfl; rfl) | ((with_reducible apply J.skipU); rfl; rfl) | with_reducible refine CW.seq ?_ | with_reducible refine CW.block ?_ | ((with_reducible refine CW.reg ?_ ?_); rfl) | ((with_reducible refine CW.regQN ?_ ?_ ?_ ?_); rfl; kernel_rfl; rfl) | ((with_reducible refine CW.regS 1 ?_ ?_ ?_); kernel_rfl; rfl; simp only [List.length_cons, List.length_nil, Nat.reduceAdd, Nat.reduceSub, List.take_succ_cons, List.take_zero, List.drop_succ_cons, List.drop_zero]) | with_reducible refine CW.skip ?_ | with_reducible refine CW.ret ?_ | with_reducible refine CW.exit ?_ | refine CW.condT rfl ?_ | refine CW.condF rfl ?_ | (refine CW.condD rfl (fun _ => ?_) (fun _ => ?_) <;> (try (exfalso; omega))) | (refine CW.cond rfl (fun _ => ?_) (fun _ => ?_) <;> (try (exfalso; simp only [decide_eq_true_eq, decide_eq_false_iff_not, Bool.and_eq_true, Bool.or_eq_true] at *; omega))) | with_reducible refine thenQ_n ?_ | with_reducible refine blockQ_n ?_ | ((with_reducible refine blockQ_e ?_ ?_); rfl) | ((with_reducible refine blockQ_x ?_ ?_); rfl) | with_reducible refine blockQ_r ?_ | with_reducible refine thenQ_x ?_ | with_reducible refine thenQ_r ?_ | ((fail_if_success ((with_reducible apply J.step); rfl)); (fail_if_success ((with_reducible apply J.skipU); rfl)); refine J.splitG rfl rfl (fun _ => ?_) (fun _ => ?_) <;> (try (exfalso; omega))) | ((fail_if_success ((with_reducible apply J.step); rfl)); (fail_if_success ((with_reducible apply J.skipU); rfl)); refine J.splitB rfl rfl (fun _ => ?_) (fun _ => ?_))))
  all_goals first | (exfalso; omega) | exact .mk rfl rfl rfl
theorem knapMost_spec (l : List It) (R : Nat) (h : IOk l) (hr : R ≤ 1000) (he : itE l R = 0) : FnSpec Sy.P 8 [its l, .int R] [its l, .int R] (.tup [.sl true 1 ((pk l R 0).map .int), .int (bv l R), .int 0]) := by
  have hlen := h.len
  have hC := knapCheck_spec l R (by omega)
  rw [he] at hC
  have hbd : ∀ a b, 0 ≤ kf l a b ∧ kf l a b ≤ 12000000 := fun a b => by
    have := bv_bound (r := (b : Int)) (h.drop a)
    rw [List.length_drop] at this
    unfold kf; omega
  obtain ⟨n, hn⟩ : ∃ n, n = l.length := ⟨_, rfl⟩
  obtain ⟨m, hm⟩ : ∃ m, m = R + 1 := ⟨_, rfl⟩
  have hrep : (List.replicate ((l.length : Int) + 1).toNat AV.nil)[(l.length : Int).toNat]? = some AV.nil := by
    rw [List.getElem?_replicate, if_pos (by omega)]
  have hrl : (List.replicate ((l.length : Int) + 1).toNat AV.nil).length = l.length + 1 := by rw [List.length_replicate]; omega
  refine FnSpec.enter (S := Sy) 0 Try.func8 rfl rfl rfl Try.ntmps8 rfl rfl rfl rfl fun v0 => ?_
  (repeat' (first | ((with_reducible apply J.step); rfl; exact FM.st) | ((with_reducible apply J.eff); rfl; exact FM.ef) | ((with_reducible apply J.callP (hC)); rfl; rfl; (repeat' (first | exact ArgsOk.nil | apply ArgsOk.cons | exact ArgOk.pl rfl rfl | exact ArgOk.br rfl AV.noConfusion (by first | rfl | exact sh_int | exact sh_rows | exact sh_rowsO | exact sh_map (fun _ => rfl)))); (first | rfl | exact (fun h => Bool.noConfusion h) | exact (fun _ => noSh_ints) | exact (fun _ => noSh_strs) | exact (fun _ => NoSh.str) | exact (fun _ => noSh_rows) | exact (fun _ => NoSh.int) | exact (fun _ => NoSh.bool) | exact (fun _ => NoSh.nil) | exact (fun _ => noSh_tup2 (by first | exact noSh_ints | exact noSh_strs | exact NoSh.str | exact noSh_rows | exact NoSh.nil | exact NoSh.int | exact NoSh.bool) (by first | exact noSh_ints | exact noSh_strs | exact NoSh.str | exact NoSh.int | exact NoSh.bool | exact noSh_rows | exact NoSh.nil)) | exact (fun _ => noSh_tup3 (by first | exact noSh_ints | exact noSh_strs | exact NoSh.str | exact noSh_rows | exact NoSh.nil | exact NoSh.int | exact NoSh.bool) (by first | exact noSh_ints | exact noSh_strs | exact NoSh.str | exact NoSh.int | exact NoSh.bool | exact noSh_rows | exact NoSh.nil) (by first | exact noSh_ints | exact noSh_strs | exact NoSh.str | exact NoSh.int | exact NoSh.bool | exact noSh_rows | exact NoSh.nil)))) | ((with_reducible apply J.callPQ (hC)); rfl; rfl; (repeat' (first | exact ArgsOk.nil | apply ArgsOk.cons | exact ArgOk.pl rfl rfl | exact ArgOk.br rfl AV.noConfusion (by first | rfl | exact sh_int | exact sh_rows | exact sh_rowsO | exact sh_map (fun _ => rfl)))); rfl) | ((with_reducible apply J.eqNil); rfl; rfl; rfl; rfl; intro bnil hbnil) | (refine J.takeRow rfl rfl AV.noConfusion rfl (by first | assumption | (simp only [List.length_map]; omega)) ?_) | with_reducible refine J.nil ?_ | ((with_reducible apply J.skipV); rfl; rfl; rfl) | ((with_reducible apply J.skipU); rfl; rfl) | with_reducible refine CW.seq ?_ | with_reducible refine CW.block ?_ | ((with_reducible refine CW.reg ?_ ?_); rfl) | ((with_reducible refine CW.regQN ?_ ?_ ?_ ?_); rfl; kernel_rfl; rfl) | ((with_reducible refine CW.regS 1 ?_ ?_ ?_); kernel_rfl; rfl; simp only [List.length_cons, List.length_nil, Nat.reduceAdd, Nat.reduceSub, List.take_succ_cons, List.take_zero, List.drop_succ_cons, List.drop_zero]) | with_reducible refine CW.skip ?_ | with_reducible refine CW.ret ?_ | with_reducible refine CW.exit ?_ | refine CW.condT rfl ?_ | refine CW.condF rfl ?_ | (refine CW.condD rfl (fun _ => ?_) (fun _ => ?_) <;> (try (exfalso; omega))) | (refine CW.cond rfl (fun _ => ?_) (fun _ => ?_) <;> (try (exfalso; simp only [decide_eq_true_eq, decide_eq_false_iff_not, Bool.and_eq_true, Bool.or_eq_true] at *; omega))) | with_reducible refine thenQ_n ?_ | with_reducible refine blockQ_n ?_ | ((with_reducible refine blockQ_e ?_ ?_); rfl) | ((with_reducible refine blockQ_x ?_ ?_); rfl) | with_reducible refine blockQ_r ?_ | with_reducible refine thenQ_x ?_ | with_reducible refine thenQ_r ?_ | ((fail_if_success ((with_reducible apply J.step); rfl)); (fail_if_success ((with_reducible apply J.skipU); rfl)); refine J.splitG rfl rfl (fun _ => ?_) (fun _ => ?_) <;> (try (exfalso; omega))) | ((fail_if_success ((with_reducible apply J.step); rfl)); (fail_if_success ((with_reducible apply J.skipU); rfl)); refine J.splitB rfl rfl (fun _ => ?_) (fun _ => ?_))))
  all_goals first | (exfalso; omega) | skip
  refine CW.leS 8 rfl le_nils_set2 ?_
  refine CW.loop (fun i : Nat => [(0, .av (its l)), (1, .av (.int ((R : Int)))), (8, .av (.sl true 1 ((inK n m (kf l) i).map rwO))), (9, .av (.int ((i : Int) - 1)))]) (fun i => i ≤ n) (fun i => i) (n) ?_ (by (repeat' (first | exact trivial | rfl | refine And.intro ?_ ?_ | exact int_congr (by omega) | exact ints_congr (by first | assumption | exact Eq.symm (by assumption)) | exact int_congr (by assumption) | exact bool_congr (by first | assumption | exact Eq.symm (by assumption)) | exact map_congr' (by first | assumption | exact Eq.symm (by assumption)) | exact map_congr' (by rw [hn, hm, ← inK_start (fun b => by unfold kf; rw [List.drop_length]; rfl), show ((l.length : Int) + 1).toNat = l.length + 1 by omega, show ((R : Int) + 1).toNat = R + 1 by omega]; rfl)))) ?_
  · exact Nat.le_refl _
  intro i hi
  have hKl : (inK n m (kf l) i).length = n + 1 := tb_length
  cases i with
  | succ i =>
    have hx : l[i]? = some (l[i]'(by omega)) := List.getElem?_eq_getElem (by omega)
    have hok := h.ok _ (List.getElem_mem (by omega : i < l.length))
    have hks := kf_step (l := l) (i := i) (by omega)
    have hKs := inK_set (n := n) (m := m) (f := kf l) (i := i)
    have hKg : (inK n m (kf l) (i + 1))[i]? = some [] := by unfold inK; rw [tb_get (by omega), if_pos (by omega)]
    rw [show ((i + 1 : Nat) : Int) - 1 = (i : Int) by omega]
    rw [show List.replicate m (0 : Int) = List.replicate ((R : Int) + 1).toNat 0 by rw [show ((R : Int) + 1).toNat = m by omega]] at hKs
    have hKs2 : ((inK n m (kf l) (i + 1)).set i (List.replicate ((R : Int) + 1).toNat (0 : Int)))[i]? = some (List.replicate ((R : Int) + 1).toNat (0 : Int)) := get_setD (by omega)
    have hRg := inKR_row (n := n) (m := m) (f := kf l) (i := i) (b := 0) (by omega)
    have hR0 : (inR m (kf l) i 0).length = m := tb_length
    have hT0 : (inKR n m (kf l) i 0).length = n + 1 := tb_length
    generalize l[i]'(by omega) = x at *
    obtain ⟨w, v, ⟨⟩⟩ := x
    dsimp only at hok hks
    (repeat' (first | ((with_reducible apply J.step); rfl; exact FM.st) | ((with_reducible apply J.eff); rfl; exact FM.ef) | ((with_reducible apply J.eqNil); rfl; rfl; rfl; rfl; intro bnil hbnil) | (refine J.takeRow rfl rfl AV.noConfusion rfl (by first | assumption | (simp only [List.length_map]; omega)) ?_) | with_reducible refine J.nil ?_ | ((with_reducible apply J.skipV); rfl; rfl; rfl) | ((with_reducible apply J.skipU); rfl; rfl) | with_reducible refine CW.seq ?_ | with_reducible refine CW.block ?_ | ((with_reducible refine CW.reg ?_ ?_); rfl) | ((with_reducible refine CW.regQN ?_ ?_ ?_ ?_); rfl; kernel_rfl; rfl) | ((with_reducible refine CW.regS 1 ?_ ?_ ?_); kernel_rfl; rfl; simp only [List.length_cons, List.length_nil, Nat.reduceAdd, Nat.reduceSub, List.take_succ_cons, List.take_zero, List.drop_succ_cons, List.drop_zero]) | with_reducible refine CW.skip ?_ | with_reducible refine CW.ret ?_ | with_reducible refine CW.exit ?_ | refine CW.condT rfl ?_ | refine CW.condF rfl ?_ | (refine CW.condD rfl (fun _ => ?_) (fun _ => ?_) <;> (try (exfalso; omega))) | (refine CW.cond rfl (fun _ => ?_) (fun _ => ?_) <;> (try (exfalso; simp only [decide_eq_true_eq, decide_eq_false_iff_not, Bool.and_eq_true, Bool.or_eq_true] at *; omega))) | with_reducible refine thenQ_n ?_ | with_reducible refine blockQ_n ?_ | ((with_reducible refine blockQ_e ?_ ?_); rfl) | ((with_reducible refine blockQ_x ?_ ?_); rfl) | with_reducible refine blockQ_r ?_ | with_reducible refine thenQ_x ?_ | with_reducible refine thenQ_r ?_ | ((fail_if_success ((with_reducible apply J.step); rfl)); (fail_if_success ((with_reducible apply J.skipU); rfl)); refine J.splitG rfl rfl (fun _ => ?_) (fun _ => ?_) <;> (try (exfalso; omega))) | ((fail_if_success ((with_reducible apply J.step); rfl)); (fail_if_success ((with_reducible apply J.skipU); rfl)); refine J.splitB rfl rfl (fun _ => ?_) (fun _ => ?_))))
    all_goals first | (exfalso; omega) | skip
    refine CW.loop (fun b : Nat => [(0, .av (its l)), (1, .av (.int ((R : Int)))), (8, .av (.sl true 1 ((inKR n m (kf l) i b).map rwO))), (9, .av (.int ((i : Int)))), (50, .av (.int ((m : Int)))), (51, .av (.int ((b : Int))))]) (fun b => b ≤ m) (fun b => m - b) (0) ?_ (by (repeat' (first | exact trivial | rfl | refine And.intro ?_ ?_ | exact int_congr (by omega) | exact ints_congr (by first | assumption | exact Eq.symm (by assumption)) | exact int_congr (by assumption) | exact bool_congr (by first | assumption | exact Eq.symm (by assumption)) | exact map_congr' (by first | assumption | exact Eq.symm (by assumption)) | (simp only [List.length_replicate]; exact int_congr (by omega))))) ?_
    · exact Nat.zero_le _
    intro b hb
    have hTl : (inKR n m (kf l) i b).length = n + 1 := tb_length
    by_cases hlt : b < m
    · have g1 := inKR_row (n := n) (m := m) (f := kf l) (i := i) (b := b) (by omega)
      have g2 := inKR_next (n := n) (m := m) (f := kf l) (i := i) (b := b) (by omega)
      have g3 := inR_at (m := m) (f := kf l) (i := i) (b := b) hlt
      have g4 := tb_get (g := kf l (i + 1)) hlt
      have hset := inKR_set (n := n) (m := m) (f := kf l) (i := i) (b := b) (v := kf l i b) rfl
      have hRl : (inR m (kf l) i b).length = m := tb_length
      have hNl : (tb m (kf l (i + 1))).length = m := tb_length
      have hks := hks b
      have hbd1 := hbd (i + 1) b
      generalize inKR n m (kf l) i b = T at *
      generalize inR m (kf l) i b = Q at *
      have g2' : T[((i : Int) + 1).toNat]? = some (tb m (kf l (i + 1))) := by rw [show ((i : Int) + 1).toNat = i + 1 by omega]; exact g2
      have g5 : (T.set i (Q.set b (kf l (i + 1) b)))[i]? = some (Q.set b (kf l (i + 1) b)) := get_setD (by omega)
      have g6 : (T.set i (Q.set b (kf l (i + 1) b)))[((i : Int) + 1).toNat]? = some (tb m (kf l (i + 1))) := by
        rw [show ((i : Int) + 1).toNat = i + 1 by omega, List.getElem?_set, if_neg (by omega)]; exact g2
      have g7 : (Q.set b (kf l (i + 1) b))[b]? = some (kf l (i + 1) b) := get_setD (by omega)
      have hQl : (Q.set b (kf l (i + 1) b)).length = m := by rw [List.length_set]; exact hRl
      by_cases hw : w ≤ (b : Int)
      · rw [if_pos hw] at hks
        have g8 : (tb m (kf l (i + 1)))[((b : Int) - w).toNat]? = some (bv (l.drop (i + 1)) ((b : Int) - w)) := by
          rw [tb_get (by omega)]; unfold kf; rw [show (((((b : Int) - w).toNat : Nat)) : Int) = (b : Int) - w by omega]
        have hbd2 := bv_bound (r := (b : Int) - w) (h.drop (i + 1))
        rw [List.length_drop] at hbd2
        have hset2 : (T.set i (Q.set b (kf l (i + 1) b))).set i ((Q.set b (kf l (i + 1) b)).set b (max (kf l (i + 1) b) (v + bv (l.drop (i + 1)) ((b : Int) - w)))) = inKR n m (kf l) i (b + 1) := by
          rw [List.set_set, List.set_set, ← hks]; exact hset
        clear hset g2 hks
        generalize kf l (i + 1) b = v1 at *
        generalize bv (l.drop (i + 1)) ((b : Int) - w) = v2 at *
        generalize tb m (kf l (i + 1)) = P at *
        (repeat' (first | ((with_reducible apply J.step); rfl; exact FM.st) | ((with_reducible apply J.eff); rfl; exact FM.ef) | ((with_reducible apply J.eqNil); rfl; rfl; rfl; rfl; intro bnil hbnil) | (refine J.takeRow rfl rfl AV.noConfusion rfl (by first | assumption | (simp only [List.length_map]; omega)) ?_) | with_reducible refine J.nil ?_ | ((with_reducible apply J.skipV); rfl; rfl; rfl) | ((with_reducible apply J.skipU); rfl; rfl) | with_reducible refine CW.seq ?_ | with_reducible refine CW.block ?_ | ((with_reducible refine CW.reg ?_ ?_); rfl) | ((with_reducible refine CW.regQN ?_ ?_ ?_ ?_); rfl; kernel_rfl; rfl) | ((with_reducible refine CW.regS 1 ?_ ?_ ?_); kernel_rfl; rfl; simp only [List.length_cons, List.length_nil, Nat.reduceAdd, Nat.reduceSub, List.take_succ_cons, List.take_zero, List.drop_succ_cons, List.drop_zero]) | with_reducible refine CW.skip ?_ | with_reducible refine CW.ret ?_ | with_reducible refine CW.exit ?_ | refine CW.condT rfl ?_ | refine CW.condF rfl ?_ | (refine CW.condD rfl (fun _ => ?_) (fun _ => ?_) <;> (try (exfalso; omega))) | (refine CW.cond rfl (fun _ => ?_) (fun _ => ?_) <;> (try (exfalso; simp only [decide_eq_true_eq, decide_eq_false_iff_not, Bool.and_eq_true, Bool.or_eq_true] at *; omega))) | with_reducible refine thenQ_n ?_ | with_reducible refine blockQ_n ?_ | ((with_reducible refine blockQ_e ?_ ?_); rfl) | ((with_reducible refine blockQ_x ?_ ?_); rfl) | with_reducible refine blockQ_r ?_ | with_reducible refine thenQ_x ?_ | with_reducible refine thenQ_r ?_ | ((fail_if_success ((with_reducible apply J.step); rfl)); (fail_if_success ((with_reducible apply J.skipU); rfl)); refine J.splitG rfl rfl (fun _ => ?_) (fun _ => ?_) <;> (try (exfalso; omega))) | ((fail_if_success ((with_reducible apply J.step); rfl)); (fail_if_success ((with_reducible apply J.skipU); rfl)); refine J.splitB rfl rfl (fun _ => ?_) (fun _ => ?_))))
        all_goals first | (exfalso; omega) | skip
        refine ⟨b+1, ?_, by first | omega | (simp only; omega), by (repeat' (first | exact trivial | rfl | refine And.intro ?_ ?_ | exact int_congr (by omega) | exact ints_congr (by first | assumption | exact Eq.symm (by assumption)) | exact int_congr (by assumption) | exact bool_congr (by first | assumption | exact Eq.symm (by assumption)) | exact map_congr' (by first | assumption | exact Eq.symm (by assumption))))⟩
        omega
      · rw [if_neg hw] at hks
        rw [hks] at hset
        clear g2 hks g5 g6 g7
        generalize kf l (i + 1) b = v1 at *
        generalize tb m (kf l (i + 1)) = P at *
        (repeat' (first | ((with_reducible apply J.step); rfl; exact FM.st) | ((with_reducible apply J.eff); rfl; exact FM.ef) | ((with_reducible apply J.eqNil); rfl; rfl; rfl; rfl; intro bnil hbnil) | (refine J.takeRow rfl rfl AV.noConfusion rfl (by first | assumption | (simp only [List.length_map]; omega)) ?_) | with_reducible refine J.nil ?_ | ((with_reducible apply J.skipV); rfl; rfl; rfl) | ((with_reducible apply J.skipU); rfl; rfl) | with_reducible refine CW.seq ?_ | with_reducible refine CW.block ?_ | ((with_reducible refine CW.reg ?_ ?_); rfl) | ((with_reducible refine CW.regQN ?_ ?_ ?_ ?_); rfl; kernel_rfl; rfl) | ((with_reducible refine CW.regS 1 ?_ ?_ ?_); kernel_rfl; rfl; simp only [List.length_cons, List.length_nil, Nat.reduceAdd, Nat.reduceSub, List.take_succ_cons, List.take_zero, List.drop_succ_cons, List.drop_zero]) | with_reducible refine CW.skip ?_ | with_reducible refine CW.ret ?_ | with_reducible refine CW.exit ?_ | refine CW.condT rfl ?_ | refine CW.condF rfl ?_ | (refine CW.condD rfl (fun _ => ?_) (fun _ => ?_) <;> (try (exfalso; omega))) | (refine CW.cond rfl (fun _ => ?_) (fun _ => ?_) <;> (try (exfalso; simp only [decide_eq_true_eq, decide_eq_false_iff_not, Bool.and_eq_true, Bool.or_eq_true] at *; omega))) | with_reducible refine thenQ_n ?_ | with_reducible refine blockQ_n ?_ | ((with_reducible refine blockQ_e ?_ ?_); rfl) | ((with_reducible refine blockQ_x ?_ ?_); rfl) | with_reducible refine blockQ_r ?_ | with_reducible refine thenQ_x ?_ | with_reducible refine thenQ_r ?_ | ((fail_if_success ((with_reducible apply J.step); rfl)); (fail_if_success ((with_reducible apply J.skipU); rfl)); refine J.splitG rfl rfl (fun _ => ?_) (fun _ => ?_) <;> (try (exfalso; omega))) | ((fail_if_success ((with_reducible apply J.step); rfl)); (fail_if_success ((with_reducible apply J.skipU); rfl)); refine J.splitB rfl rfl (fun _ => ?_) (fun _ => ?_))))
        all_goals first | (exfalso; omega) | skip
        refine ⟨b+1, ?_, by first | omega | (simp only; omega), by (repeat' (first | exact trivial | rfl | refine And.intro ?_ ?_ | exact int_congr (by omega) | exact ints_congr (by first | assumption | exact Eq.symm (by assumption)) | exact int_congr (by assumption) | exact bool_congr (by first | assumption | exact Eq.symm (by assumption)) | exact map_congr' (by first | assumption | exact Eq.symm (by assumption))))⟩
        omega
    · obtain rfl : b = m := by omega
      rw [inKR_end]
      (repeat' (first | ((with_reducible apply J.step); rfl; exact FM.st) | ((with_reducible apply J.eff); rfl; exact FM.ef) | ((with_reducible apply J.eqNil); rfl; rfl; rfl; rfl; intro bnil hbnil) | (refine J.takeRow rfl rfl AV.noConfusion rfl (by first | assumption | (simp only [List.length_map]; omega)) ?_) | with_reducible refine J.nil ?_ | ((with_reducible apply J.skipV); rfl; rfl; rfl) | ((with_reducible apply J.skipU); rfl; rfl) | with_reducible refine CW.seq ?_ | with_reducible refine CW.block ?_ | ((with_reducible refine CW.reg ?_ ?_); rfl) | ((with_reducible refine CW.regQN ?_ ?_ ?_ ?_); rfl; kernel_rfl; rfl) | ((with_reducible refine CW.regS 1 ?_ ?_ ?_); kernel_rfl; rfl; simp only [List.length_cons, List.length_nil, Nat.reduceAdd, Nat.reduceSub, List.take_succ_cons, List.take_zero, List.drop_succ_cons, List.drop_zero]) | with_reducible refine CW.skip ?_ | with_reducible refine CW.ret ?_ | with_reducible refine CW.exit ?_ | refine CW.condT rfl ?_ | refine CW.condF rfl ?_ | (refine CW.condD rfl (fun _ => ?_) (fun _ => ?_) <;> (try (exfalso; omega))) | (refine CW.cond rfl (fun _ => ?_) (fun _ => ?_) <;> (try (exfalso; simp only [decide_eq_true_eq, decide_eq_false_iff_not, Bool.and_eq_true, Bool.or_eq_true] at *; omega))) | with_reducible refine thenQ_n ?_ | with_reducible refine blockQ_n ?_ | ((with_reducible refine blockQ_e ?_ ?_); rfl) | ((with_reducible refine blockQ_x ?_ ?_); rfl) | with_reducible refine blockQ_r ?_ | with_reducible refine thenQ_x ?_ | with_reducible refine thenQ_r ?_ | ((fail_if_success ((with_reducible apply J.step); rfl)); (fail_if_success ((with_reducible apply J.skipU); rfl)); refine J.splitG rfl rfl (fun _ => ?_) (fun _ => ?_) <;> (try (exfalso; omega))) | ((fail_if_success ((with_reducible apply J.step); rfl)); (fail_if_success ((with_reducible apply J.skipU); rfl)); refine J.splitB rfl rfl (fun _ => ?_) (fun _ => ?_))))
      all_goals first | (exfalso; omega) | skip
      refine ⟨i, ?_, by first | omega | (simp only; omega), by (repeat' (first | exact trivial | rfl | refine And.intro ?_ ?_ | exact int_congr (by omega) | exact ints_congr (by first | assumption | exact Eq.symm (by assumption)) | exact int_congr (by assumption) | exact bool_congr (by first | assumption | exact Eq.symm (by assumption)) | exact map_congr' (by first | assumption | exact Eq.symm (by assumption))))⟩
      omega
  | zero =>
    have hTl : (inK n m (kf l) 0).length = n + 1 := tb_length
    have hrow : ∀ a, a < n + 1 → (inK n m (kf l) 0)[a]? = some (tb m (kf l a)) := fun a ha => by
      unfold inK; rw [tb_get ha, if_neg (Nat.not_lt_zero _)]
    have hcol : ∀ a b : Nat, b < m → (tb m (kf l a))[b]? = some (kf l a b) := fun a b hb => tb_get hb
    have hrl2 : ∀ a, (tb m (kf l a)).length = m := fun a => tb_length
    have hfin : bv l R = kf l 0 R := rfl
    have hr0 := hrow 0 (by omega)
    have hc0 := hcol 0 R (by omega)
    have hl0 := hrl2 0
    generalize inK n m (kf l) 0 = T at *
    (repeat' (first | ((with_reducible apply J.step); rfl; exact FM.st) | ((with_reducible apply J.eff); rfl; exact FM.ef) | ((with_reducible apply J.eqNil); rfl; rfl; rfl; rfl; intro bnil hbnil) | (refine J.takeRow rfl rfl AV.noConfusion rfl (by first | assumption | (simp only [List.length_map]; omega)) ?_) | with_reducible refine J.nil ?_ | ((with_reducible apply J.skipV); rfl; rfl; rfl) | ((with_reducible apply J.skipU); rfl; rfl) | with_reducible refine CW.seq ?_ | with_reducible refine CW.block ?_ | ((with_reducible refine CW.reg ?_ ?_); rfl) | ((with_reducible refine CW.regQN ?_ ?_ ?_ ?_); rfl; kernel_rfl; rfl) | ((with_reducible refine CW.regS 1 ?_ ?_ ?_); kernel_rfl; rfl; simp only [List.length_cons, List.length_nil, Nat.reduceAdd, Nat.reduceSub, List.take_succ_cons, List.take_zero, List.drop_succ_cons, List.drop_zero]) | with_reducible refine CW.skip ?_ | with_reducible refine CW.ret ?_ | with_reducible refine CW.exit ?_ | refine CW.condT rfl ?_ | refine CW.condF rfl ?_ | (refine CW.condD rfl (fun _ => ?_) (fun _ => ?_) <;> (try (exfalso; omega))) | (refine CW.cond rfl (fun _ => ?_) (fun _ => ?_) <;> (try (exfalso; simp only [decide_eq_true_eq, decide_eq_false_iff_not, Bool.and_eq_true, Bool.or_eq_true] at *; omega))) | with_reducible refine thenQ_n ?_ | with_reducible refine blockQ_n ?_ | ((with_reducible refine blockQ_e ?_ ?_); rfl) | ((with_reducible refine blockQ_x ?_ ?_); rfl) | with_reducible refine blockQ_r ?_ | with_reducible refine thenQ_x ?_ | with_reducible refine thenQ_r ?_ | ((fail_if_success ((with_reducible apply J.step); rfl)); (fail_if_success ((with_reducible apply J.skipU); rfl)); refine J.splitG rfl rfl (fun _ => ?_) (fun _ => ?_) <;> (try (exfalso; omega))) | ((fail_if_success ((with_reducible apply J.step); rfl)); (fail_if_success ((with_reducible apply J.skipU); rfl)); refine J.splitB rfl rfl (fun _ => ?_) (fun _ => ?_))))
    all_goals first | (exfalso; omega) | skip
    refine CW.own 12 1 rfl ?_
    refine CW.loop (fun z : Nat × List Int × Nat => [(1, .av (.int ((R : Int)))), (8, .av (.sl true 1 ((T).map rwO))), (12, .av (.sl true 1 ((z.2.1).map .int))), (13, .av (.int ((z.2.2 : Int)))), (106, .av (its l)), (107, .av (.int (l.length))), (108, .av (.int ((z.1 : Int))))]) (fun z => z.1 ≤ n ∧ z.2.2 ≤ R ∧ z.2.1 ++ pk (l.drop z.1) z.2.2 z.1 = pk l R 0 ∧ z.2.1.length ≤ z.1) (fun z => n - z.1) ((0, [], R)) ?_ (by (repeat' (first | exact trivial | rfl | refine And.intro ?_ ?_ | exact int_congr (by omega) | exact ints_congr (by first | assumption | exact Eq.symm (by assumption)) | exact int_congr (by assumption) | exact bool_congr (by first | assumption | exact Eq.symm (by assumption)) | exact map_congr' (by first | assumption | exact Eq.symm (by assumption))))) ?_
    · exact ⟨Nat.zero_le _, Nat.le_refl _, rfl, Nat.le_refl _⟩
    intro ⟨k, out, q⟩ ⟨hk, hq, hp, hol⟩
    dsimp only at hk hq hp hol ⊢
    by_cases hlt : k < n
    · have hx : l[k]? = some (l[k]'(by omega)) := List.getElem?_eq_getElem (by omega)
      have hok := h.ok _ (List.getElem_mem (by omega : k < l.length))
      rw [pk_drop (by omega)] at hp
      have hrk := hrow k (by omega)
      have hrk1 : T[((k : Int) + 1).toNat]? = some (tb m (kf l (k + 1))) := by rw [show ((k : Int) + 1).toNat = k + 1 by omega]; exact hrow (k + 1) (by omega)
      have hck := hcol k q (by omega)
      have hlk := hrl2 k
      have hlk1 := hrl2 (k + 1)
      generalize l[k]'(by omega) = x at *
      obtain ⟨w, v, ⟨⟩⟩ := x
      dsimp only at hok hp
      by_cases hw : w ≤ (q : Int)
      · obtain ⟨q', hq'⟩ : ∃ q' : Nat, (q : Int) - w = q' := ⟨((q : Int) - w).toNat, by omega⟩
        have hck1 : (tb m (kf l (k + 1)))[((q : Int) - w).toNat]? = some (kf l (k + 1) q') := by rw [hq', Int.toNat_natCast]; exact hcol (k + 1) q' (by omega)
        have b1 := hbd k q
        have b2 := hbd (k + 1) q'
        have e1 : bv (l.drop k) (q : Int) = kf l k q := rfl
        have e2 : bv (l.drop (k + 1)) (q' : Int) = kf l (k + 1) q' := rfl
        rw [hq', e1, e2] at hp
        generalize kf l k q = v1 at *
        generalize kf l (k + 1) q' = v2 at *
        generalize tb m (kf l k) = P1 at *
        generalize tb m (kf l (k + 1)) = P2 at *
        by_cases hc : 0 < v ∧ v + v2 = v1
        · rw [if_pos ⟨hw, hc⟩] at hp
          (repeat' (first | ((with_reducible apply J.step); rfl; exact FM.st) | ((with_reducible apply J.eff); rfl; exact FM.ef) | ((with_reducible apply J.eqNil); rfl; rfl; rfl; rfl; intro bnil hbnil) | (refine J.takeRow rfl rfl AV.noConfusion rfl (by first | assumption | (simp only [List.length_map]; omega)) ?_) | with_reducible refine J.nil ?_ | ((with_reducible apply J.skipV); rfl; rfl; rfl) | ((with_reducible apply J.skipU); rfl; rfl) | with_reducible refine CW.seq ?_ | with_reducible refine CW.block ?_ | ((with_reducible refine CW.reg ?_ ?_); rfl) | ((with_reducible refine CW.regQN ?_ ?_ ?_ ?_); rfl; kernel_rfl; rfl) | ((with_reducible refine CW.regS 1 ?_ ?_ ?_); kernel_rfl; rfl; simp only [List.length_cons, List.length_nil, Nat.reduceAdd, Nat.reduceSub, List.take_succ_cons, List.take_zero, List.drop_succ_cons, List.drop_zero]) | with_reducible refine CW.skip ?_ | with_reducible refine CW.ret ?_ | with_reducible refine CW.exit ?_ | refine CW.condT rfl ?_ | refine CW.condF rfl ?_ | (refine CW.condD rfl (fun _ => ?_) (fun _ => ?_) <;> (try (exfalso; omega))) | (refine CW.cond rfl (fun _ => ?_) (fun _ => ?_) <;> (try (exfalso; simp only [decide_eq_true_eq, decide_eq_false_iff_not, Bool.and_eq_true, Bool.or_eq_true] at *; omega))) | with_reducible refine thenQ_n ?_ | with_reducible refine blockQ_n ?_ | ((with_reducible refine blockQ_e ?_ ?_); rfl) | ((with_reducible refine blockQ_x ?_ ?_); rfl) | with_reducible refine blockQ_r ?_ | with_reducible refine thenQ_x ?_ | with_reducible refine thenQ_r ?_ | ((fail_if_success ((with_reducible apply J.step); rfl)); (fail_if_success ((with_reducible apply J.skipU); rfl)); refine J.splitG rfl rfl (fun _ => ?_) (fun _ => ?_) <;> (try (exfalso; omega))) | ((fail_if_success ((with_reducible apply J.step); rfl)); (fail_if_success ((with_reducible apply J.skipU); rfl)); refine J.splitB rfl rfl (fun _ => ?_) (fun _ => ?_))))
          all_goals first | (exfalso; omega) | skip
          refine ⟨(k + 1, out ++ [(k : Int)], q'), ?_, by first | omega | (simp only; omega), by (repeat' (first | exact trivial | rfl | refine And.intro ?_ ?_ | exact int_congr (by omega) | exact ints_congr (by first | assumption | exact Eq.symm (by assumption)) | exact int_congr (by assumption) | exact bool_congr (by first | assumption | exact Eq.symm (by assumption)) | exact map_congr' (by first | assumption | exact Eq.symm (by assumption))))⟩
          refine ⟨by simp only; omega, by simp only; omega, ?_, by simp only [List.length_append, List.length_cons, List.length_nil]; omega⟩
          simp only [List.append_assoc, List.singleton_append]; exact hp
        · rw [if_neg (fun e => hc e.2)] at hp
          by_cases hv : 0 < v
          · have hne : ¬ v + v2 = v1 := fun e => hc ⟨hv, e⟩
            (repeat' (first | ((with_reducible apply J.step); rfl; exact FM.st) | ((with_reducible apply J.eff); rfl; exact FM.ef) | ((with_reducible apply J.eqNil); rfl; rfl; rfl; rfl; intro bnil hbnil) | (refine J.takeRow rfl rfl AV.noConfusion rfl (by first | assumption | (simp only [List.length_map]; omega)) ?_) | with_reducible refine J.nil ?_ | ((with_reducible apply J.skipV); rfl; rfl; rfl) | ((with_reducible apply J.skipU); rfl; rfl) | with_reducible refine CW.seq ?_ | with_reducible refine CW.block ?_ | ((with_reducible refine CW.reg ?_ ?_); rfl) | ((with_reducible refine CW.regQN ?_ ?_ ?_ ?_); rfl; kernel_rfl; rfl) | ((with_reducible refine CW.regS 1 ?_ ?_ ?_); kernel_rfl; rfl; simp only [List.length_cons, List.length_nil, Nat.reduceAdd, Nat.reduceSub, List.take_succ_cons, List.take_zero, List.drop_succ_cons, List.drop_zero]) | with_reducible refine CW.skip ?_ | with_reducible refine CW.ret ?_ | with_reducible refine CW.exit ?_ | refine CW.condT rfl ?_ | refine CW.condF rfl ?_ | (refine CW.condD rfl (fun _ => ?_) (fun _ => ?_) <;> (try (exfalso; omega))) | (refine CW.cond rfl (fun _ => ?_) (fun _ => ?_) <;> (try (exfalso; simp only [decide_eq_true_eq, decide_eq_false_iff_not, Bool.and_eq_true, Bool.or_eq_true] at *; omega))) | with_reducible refine thenQ_n ?_ | with_reducible refine blockQ_n ?_ | ((with_reducible refine blockQ_e ?_ ?_); rfl) | ((with_reducible refine blockQ_x ?_ ?_); rfl) | with_reducible refine blockQ_r ?_ | with_reducible refine thenQ_x ?_ | with_reducible refine thenQ_r ?_ | ((fail_if_success ((with_reducible apply J.step); rfl)); (fail_if_success ((with_reducible apply J.skipU); rfl)); refine J.splitG rfl rfl (fun _ => ?_) (fun _ => ?_) <;> (try (exfalso; omega))) | ((fail_if_success ((with_reducible apply J.step); rfl)); (fail_if_success ((with_reducible apply J.skipU); rfl)); refine J.splitB rfl rfl (fun _ => ?_) (fun _ => ?_))))
            all_goals first | (exfalso; omega) | skip
            all_goals (refine ⟨(k + 1, out, q), ?_, by first | omega | (simp only; omega), by (repeat' (first | exact trivial | rfl | refine And.intro ?_ ?_ | exact int_congr (by omega) | exact ints_congr (by first | assumption | exact Eq.symm (by assumption)) | exact int_congr (by assumption) | exact bool_congr (by first | assumption | exact Eq.symm (by assumption)) | exact map_congr' (by first | assumption | exact Eq.symm (by assumption))))⟩; exact ⟨by simp only; omega, hq, hp, by simp only; omega⟩)
          · (repeat' (first | ((with_reducible apply J.step); rfl; exact FM.st) | ((with_reducible apply J.eff); rfl; exact FM.ef) | ((with_reducible apply J.eqNil); rfl; rfl; rfl; rfl; intro bnil hbnil) | (refine J.takeRow rfl rfl AV.noConfusion rfl (by first | assumption | (simp only [List.length_map]; omega)) ?_) | with_reducible refine J.nil ?_ | ((with_reducible apply J.skipV); rfl; rfl; rfl) | ((with_reducible apply J.skipU); rfl; rfl) | with_reducible refine CW.seq ?_ | with_reducible refine CW.block ?_ | ((with_reducible refine CW.reg ?_ ?_); rfl) | ((with_reducible refine CW.regQN ?_ ?_ ?_ ?_); rfl; kernel_rfl; rfl) | ((with_reducible refine CW.regS 1 ?_ ?_ ?_); kernel_rfl; rfl; simp only [List.length_cons, List.length_nil, Nat.reduceAdd, Nat.reduceSub, List.take_succ_cons, List.take_zero, List.drop_succ_cons, List.drop_zero]) | with_reducible refine CW.skip ?_ | with_reducible refine CW.ret ?_ | with_reducible refine CW.exit ?_ | refine CW.condT rfl ?_ | refine CW.condF rfl ?_ | (refine CW.condD rfl (fun _ => ?_) (fun _ => ?_) <;> (try (exfalso; omega))) | (refine CW.cond rfl (fun _ => ?_) (fun _ => ?_) <;> (try (exfalso; simp only [decide_eq_true_eq, decide_eq_false_iff_not, Bool.and_eq_true, Bool.or_eq_true] at *; omega))) | with_reducible refine thenQ_n ?_ | with_reducible refine blockQ_n ?_ | ((with_reducible refine blockQ_e ?_ ?_); rfl) | ((with_reducible refine blockQ_x ?_ ?_); rfl) | with_reducible refine blockQ_r ?_ | with_reducible refine thenQ_x ?_ | with_reducible refine thenQ_r ?_ | ((fail_if_success ((with_reducible apply J.step); rfl)); (fail_if_success ((with_reducible apply J.skipU); rfl)); refine J.splitG rfl rfl (fun _ => ?_) (fun _ => ?_) <;> (try (exfalso; omega))) | ((fail_if_success ((with_reducible apply J.step); rfl)); (fail_if_success ((with_reducible apply J.skipU); rfl)); refine J.splitB rfl rfl (fun _ => ?_) (fun _ => ?_))))
            all_goals first | (exfalso; omega) | skip
            all_goals (refine ⟨(k + 1, out, q), ?_, by first | omega | (simp only; omega), by (repeat' (first | exact trivial | rfl | refine And.intro ?_ ?_ | exact int_congr (by omega) | exact ints_congr (by first | assumption | exact Eq.symm (by assumption)) | exact int_congr (by assumption) | exact bool_congr (by first | assumption | exact Eq.symm (by assumption)) | exact map_congr' (by first | assumption | exact Eq.symm (by assumption))))⟩; exact ⟨by simp only; omega, hq, hp, by simp only; omega⟩)
      · rw [if_neg (fun e => hw e.1)] at hp
        (repeat' (first | ((with_reducible apply J.step); rfl; exact FM.st) | ((with_reducible apply J.eff); rfl; exact FM.ef) | ((with_reducible apply J.eqNil); rfl; rfl; rfl; rfl; intro bnil hbnil) | (refine J.takeRow rfl rfl AV.noConfusion rfl (by first | assumption | (simp only [List.length_map]; omega)) ?_) | with_reducible refine J.nil ?_ | ((with_reducible apply J.skipV); rfl; rfl; rfl) | ((with_reducible apply J.skipU); rfl; rfl) | with_reducible refine CW.seq ?_ | with_reducible refine CW.block ?_ | ((with_reducible refine CW.reg ?_ ?_); rfl) | ((with_reducible refine CW.regQN ?_ ?_ ?_ ?_); rfl; kernel_rfl; rfl) | ((with_reducible refine CW.regS 1 ?_ ?_ ?_); kernel_rfl; rfl; simp only [List.length_cons, List.length_nil, Nat.reduceAdd, Nat.reduceSub, List.take_succ_cons, List.take_zero, List.drop_succ_cons, List.drop_zero]) | with_reducible refine CW.skip ?_ | with_reducible refine CW.ret ?_ | with_reducible refine CW.exit ?_ | refine CW.condT rfl ?_ | refine CW.condF rfl ?_ | (refine CW.condD rfl (fun _ => ?_) (fun _ => ?_) <;> (try (exfalso; omega))) | (refine CW.cond rfl (fun _ => ?_) (fun _ => ?_) <;> (try (exfalso; simp only [decide_eq_true_eq, decide_eq_false_iff_not, Bool.and_eq_true, Bool.or_eq_true] at *; omega))) | with_reducible refine thenQ_n ?_ | with_reducible refine blockQ_n ?_ | ((with_reducible refine blockQ_e ?_ ?_); rfl) | ((with_reducible refine blockQ_x ?_ ?_); rfl) | with_reducible refine blockQ_r ?_ | with_reducible refine thenQ_x ?_ | with_reducible refine thenQ_r ?_ | ((fail_if_success ((with_reducible apply J.step); rfl)); (fail_if_success ((with_reducible apply J.skipU); rfl)); refine J.splitG rfl rfl (fun _ => ?_) (fun _ => ?_) <;> (try (exfalso; omega))) | ((fail_if_success ((with_reducible apply J.step); rfl)); (fail_if_success ((with_reducible apply J.skipU); rfl)); refine J.splitB rfl rfl (fun _ => ?_) (fun _ => ?_))))
        all_goals first | (exfalso; omega) | skip
        all_goals (refine ⟨(k + 1, out, q), ?_, by first | omega | (simp only; omega), by (repeat' (first | exact trivial | rfl | refine And.intro ?_ ?_ | exact int_congr (by omega) | exact ints_congr (by first | assumption | exact Eq.symm (by assumption)) | exact int_congr (by assumption) | exact bool_congr (by first | assumption | exact Eq.symm (by assumption)) | exact map_congr' (by first | assumption | exact Eq.symm (by assumption))))⟩; exact ⟨by simp only; omega, hq, hp, by simp only; omega⟩)
    · obtain rfl : k = n := by omega
      rw [hn, List.drop_length] at hp
      have hnil : pk [] q l.length = [] := rfl
      rw [hnil, List.append_nil] at hp
      rw [hfin, ← hp]
      (repeat' (first | ((with_reducible apply J.step); rfl; exact FM.st) | ((with_reducible apply J.eff); rfl; exact FM.ef) | ((with_reducible apply J.eqNil); rfl; rfl; rfl; rfl; intro bnil hbnil) | (refine J.takeRow rfl rfl AV.noConfusion rfl (by first | assumption | (simp only [List.length_map]; omega)) ?_) | with_reducible refine J.nil ?_ | ((with_reducible apply J.skipV); rfl; rfl; rfl) | ((with_reducible apply J.skipU); rfl; rfl) | with_reducible refine CW.seq ?_ | with_reducible refine CW.block ?_ | ((with_reducible refine CW.reg ?_ ?_); rfl) | ((with_reducible refine CW.regQN ?_ ?_ ?_ ?_); rfl; kernel_rfl; rfl) | ((with_reducible refine CW.regS 1 ?_ ?_ ?_); kernel_rfl; rfl; simp only [List.length_cons, List.length_nil, Nat.reduceAdd, Nat.reduceSub, List.take_succ_cons, List.take_zero, List.drop_succ_cons, List.drop_zero]) | with_reducible refine CW.skip ?_ | with_reducible refine CW.ret ?_ | with_reducible refine CW.exit ?_ | refine CW.condT rfl ?_ | refine CW.condF rfl ?_ | (refine CW.condD rfl (fun _ => ?_) (fun _ => ?_) <;> (try (exfalso; omega))) | (refine CW.cond rfl (fun _ => ?_) (fun _ => ?_) <;> (try (exfalso; simp only [decide_eq_true_eq, decide_eq_false_iff_not, Bool.and_eq_true, Bool.or_eq_true] at *; omega))) | with_reducible refine thenQ_n ?_ | with_reducible refine blockQ_n ?_ | ((with_reducible refine blockQ_e ?_ ?_); rfl) | ((with_reducible refine blockQ_x ?_ ?_); rfl) | with_reducible refine blockQ_r ?_ | with_reducible refine thenQ_x ?_ | with_reducible refine thenQ_r ?_ | ((fail_if_success ((with_reducible apply J.step); rfl)); (fail_if_success ((with_reducible apply J.skipU); rfl)); refine J.splitG rfl rfl (fun _ => ?_) (fun _ => ?_) <;> (try (exfalso; omega))) | ((fail_if_success ((with_reducible apply J.step); rfl)); (fail_if_success ((with_reducible apply J.skipU); rfl)); refine J.splitB rfl rfl (fun _ => ?_) (fun _ => ?_))))
      all_goals first | (exfalso; omega) | exact .mk rfl rfl rfl
end Go.Proofs.Ytglbicbaplejeaa
