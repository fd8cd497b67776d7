/- Mixing two rows: the code's small functions, walked. -/
import Derived.Test.YtohgcgedbhlnfaaMy
import Derived.Test.YtohgcgedbhlnfaaLj
import Derived.Test.YtohgcgedbhlnfaaSa
namespace Go.Proofs.Ytohgcgedbhlnfaa
open Go FM
set_option maxRecDepth 10000
set_option maxHeartbeats 1600000
set_option linter.all false
theorem gcd_spec (p q : Int) (hp : -1000000000000 ≤ p ∧ p ≤ 1000000000000) (hq : 0 < q ∧ q ≤ 1000000000000) : FnSpec Sy.P 100 [.int p, .int q] [.int p, .int q] (.int (Int.gcd p q : Nat)) := by
  have hm0 : max p (-p) = (p.natAbs : Int) := by omega
  have hq0 : q = (q.natAbs : Int) := by omega
  have hg0 : Nat.gcd p.natAbs q.natAbs = Int.gcd p q := rfl
  have hb1 : p.natAbs ≤ 1000000000000 := by omega
  have hb2 : q.natAbs ≤ 1000000000000 := by omega
  refine FnSpec.enter (S := Sy) 0 Try.func100 rfl rfl rfl Try.ntmps100 rfl rfl rfl rfl fun v0 => ?_
  (repeat' (first | ((with_reducible apply J.step); rfl; exact FM.st) | ((with_reducible apply J.eff); rfl; exact FM.ef) | ((with_reducible apply J.eqNil); rfl; rfl; rfl; rfl; intro bnil hbnil) | (refine J.takeRow rfl rfl AV.noConfusion rfl (by first | assumption | (simp only [List.length_map]; omega)) ?_) | with_reducible refine J.nil ?_ | ((with_reducible apply J.skipV); rfl; rfl; rfl) | ((with_reducible apply J.skipU); rfl; rfl) | with_reducible refine CW.seq ?_ | with_reducible refine CW.block ?_ | ((with_reducible refine CW.reg ?_ ?_); rfl) | ((with_reducible refine CW.regQN ?_ ?_ ?_ ?_); rfl; kernel_rfl; rfl) | ((with_reducible refine CW.regS 1 ?_ ?_ ?_); kernel_rfl; rfl; simp only [List.length_cons, List.length_nil, Nat.reduceAdd, Nat.reduceSub, List.take_succ_cons, List.take_zero, List.drop_succ_cons, List.drop_zero]) | with_reducible refine CW.skip ?_ | with_reducible refine CW.ret ?_ | with_reducible refine CW.exit ?_ | refine CW.condT rfl ?_ | refine CW.condF rfl ?_ | (refine CW.condD rfl (fun _ => ?_) (fun _ => ?_) <;> (try (exfalso; omega))) | (refine CW.cond rfl (fun _ => ?_) (fun _ => ?_) <;> (try (exfalso; simp only [decide_eq_true_eq, decide_eq_false_iff_not, Bool.and_eq_true, Bool.or_eq_true] at *; omega))) | with_reducible refine thenQ_n ?_ | with_reducible refine blockQ_n ?_ | ((with_reducible refine blockQ_e ?_ ?_); rfl) | ((with_reducible refine blockQ_x ?_ ?_); rfl) | with_reducible refine blockQ_r ?_ | with_reducible refine thenQ_x ?_ | with_reducible refine thenQ_r ?_ | ((fail_if_success ((with_reducible apply J.step); rfl)); (fail_if_success ((with_reducible apply J.skipU); rfl)); refine J.splitG rfl rfl (fun _ => ?_) (fun _ => ?_) <;> (try (exfalso; omega))) | ((fail_if_success ((with_reducible apply J.step); rfl)); (fail_if_success ((with_reducible apply J.skipU); rfl)); refine J.splitB rfl rfl (fun _ => ?_) (fun _ => ?_))))
  refine CW.loop (fun z : Nat × Nat => [(0, .av (.int (z.1))), (1, .av (.int (z.2)))]) (fun z => Nat.gcd z.1 z.2 = Int.gcd p q ∧ z.1 ≤ 1000000000000 ∧ z.2 ≤ 1000000000000) (fun z => z.2) ((p.natAbs, q.natAbs)) ?_ (by (repeat' (first | exact trivial | rfl | refine And.intro ?_ ?_ | exact int_congr (by omega) | exact ints_congr (by first | assumption | exact Eq.symm (by assumption)) | exact int_congr (by assumption) | exact bool_congr (by first | assumption | exact Eq.symm (by assumption)) | exact map_congr' (by first | assumption | exact Eq.symm (by assumption)) | exact int_congr hm0 | exact int_congr hq0))) ?_
  · exact ⟨hg0, hb1, hb2⟩
  intro ⟨a, b⟩ ⟨h1, h2, h3⟩
  simp only at h1 h2 h3 ⊢
  by_cases hb : b = 0
  · subst hb
    rw [Nat.gcd_zero_right] at h1
    subst h1
    (repeat' (first | ((with_reducible apply J.step); rfl; exact FM.st) | ((with_reducible apply J.eff); rfl; exact FM.ef) | ((with_reducible apply J.eqNil); rfl; rfl; rfl; rfl; intro bnil hbnil) | (refine J.takeRow rfl rfl AV.noConfusion rfl (by first | assumption | (simp only [List.length_map]; omega)) ?_) | with_reducible refine J.nil ?_ | ((with_reducible apply J.skipV); rfl; rfl; rfl) | ((with_reducible apply J.skipU); rfl; rfl) | with_reducible refine CW.seq ?_ | with_reducible refine CW.block ?_ | ((with_reducible refine CW.reg ?_ ?_); rfl) | ((with_reducible refine CW.regQN ?_ ?_ ?_ ?_); rfl; kernel_rfl; rfl) | ((with_reducible refine CW.regS 1 ?_ ?_ ?_); kernel_rfl; rfl; simp only [List.length_cons, List.length_nil, Nat.reduceAdd, Nat.reduceSub, List.take_succ_cons, List.take_zero, List.drop_succ_cons, List.drop_zero]) | with_reducible refine CW.skip ?_ | with_reducible refine CW.ret ?_ | with_reducible refine CW.exit ?_ | refine CW.condT rfl ?_ | refine CW.condF rfl ?_ | (refine CW.condD rfl (fun _ => ?_) (fun _ => ?_) <;> (try (exfalso; omega))) | (refine CW.cond rfl (fun _ => ?_) (fun _ => ?_) <;> (try (exfalso; simp only [decide_eq_true_eq, decide_eq_false_iff_not, Bool.and_eq_true, Bool.or_eq_true] at *; omega))) | with_reducible refine thenQ_n ?_ | with_reducible refine blockQ_n ?_ | ((with_reducible refine blockQ_e ?_ ?_); rfl) | ((with_reducible refine blockQ_x ?_ ?_); rfl) | with_reducible refine blockQ_r ?_ | with_reducible refine thenQ_x ?_ | with_reducible refine thenQ_r ?_ | ((fail_if_success ((with_reducible apply J.step); rfl)); (fail_if_success ((with_reducible apply J.skipU); rfl)); refine J.splitG rfl rfl (fun _ => ?_) (fun _ => ?_) <;> (try (exfalso; omega))) | ((fail_if_success ((with_reducible apply J.step); rfl)); (fail_if_success ((with_reducible apply J.skipU); rfl)); refine J.splitB rfl rfl (fun _ => ?_) (fun _ => ?_))))
    all_goals first | (exfalso; omega) | exact .mk rfl rfl rfl
  · have hr : (a : Int).tmod (b : Int) = ((a % b : Nat) : Int) := by rw [Int.tmod_eq_emod_of_nonneg (by omega)]; norm_cast
    have hlt := Nat.mod_lt a (Nat.pos_of_ne_zero hb)
    have hrec : Nat.gcd b (a % b) = Int.gcd p q := by rw [← h1, Nat.gcd_comm a b, Nat.gcd_rec b a, Nat.gcd_comm]
    (repeat' (first | ((with_reducible apply J.step); rfl; exact FM.st) | ((with_reducible apply J.eff); rfl; exact FM.ef) | ((with_reducible apply J.eqNil); rfl; rfl; rfl; rfl; intro bnil hbnil) | (refine J.takeRow rfl rfl AV.noConfusion rfl (by first | assumption | (simp only [List.length_map]; omega)) ?_) | with_reducible refine J.nil ?_ | ((with_reducible apply J.skipV); rfl; rfl; rfl) | ((with_reducible apply J.skipU); rfl; rfl) | with_reducible refine CW.seq ?_ | with_reducible refine CW.block ?_ | ((with_reducible refine CW.reg ?_ ?_); rfl) | ((with_reducible refine CW.regQN ?_ ?_ ?_ ?_); rfl; kernel_rfl; rfl) | ((with_reducible refine CW.regS 1 ?_ ?_ ?_); kernel_rfl; rfl; simp only [List.length_cons, List.length_nil, Nat.reduceAdd, Nat.reduceSub, List.take_succ_cons, List.take_zero, List.drop_succ_cons, List.drop_zero]) | with_reducible refine CW.skip ?_ | with_reducible refine CW.ret ?_ | with_reducible refine CW.exit ?_ | refine CW.condT rfl ?_ | refine CW.condF rfl ?_ | (refine CW.condD rfl (fun _ => ?_) (fun _ => ?_) <;> (try (exfalso; omega))) | (refine CW.cond rfl (fun _ => ?_) (fun _ => ?_) <;> (try (exfalso; simp only [decide_eq_true_eq, decide_eq_false_iff_not, Bool.and_eq_true, Bool.or_eq_true] at *; omega))) | with_reducible refine thenQ_n ?_ | with_reducible refine blockQ_n ?_ | ((with_reducible refine blockQ_e ?_ ?_); rfl) | ((with_reducible refine blockQ_x ?_ ?_); rfl) | with_reducible refine blockQ_r ?_ | with_reducible refine thenQ_x ?_ | with_reducible refine thenQ_r ?_ | ((fail_if_success ((with_reducible apply J.step); rfl)); (fail_if_success ((with_reducible apply J.skipU); rfl)); refine J.splitG rfl rfl (fun _ => ?_) (fun _ => ?_) <;> (try (exfalso; omega))) | ((fail_if_success ((with_reducible apply J.step); rfl)); (fail_if_success ((with_reducible apply J.skipU); rfl)); refine J.splitB rfl rfl (fun _ => ?_) (fun _ => ?_))))
    all_goals first | (exfalso; omega) | skip
    refine ⟨(b, a % b), ?_, by first | omega | (simp only; omega), by (repeat' (first | exact trivial | rfl | refine And.intro ?_ ?_ | exact int_congr (by omega) | exact ints_congr (by first | assumption | exact Eq.symm (by assumption)) | exact int_congr (by assumption) | exact bool_congr (by first | assumption | exact Eq.symm (by assumption)) | exact map_congr' (by first | assumption | exact Eq.symm (by assumption)) | exact int_congr hr))⟩
    exact ⟨hrec, h3, by simp only; omega⟩
theorem lowT_bnd {p q : Int} (hq : 0 < q) {m : Int} (hm : -m ≤ p ∧ p ≤ m) (hm2 : q ≤ m) : (-m ≤ (lowT p q).1 ∧ (lowT p q).1 ≤ m) ∧ 0 < (lowT p q).2 ∧ (lowT p q).2 ≤ m := by
  obtain ⟨h1, h2, h3⟩ := lowT_spec (p := p) hq
  have hg := gcd_pos (p := p) hq
  have e1 : (p.tdiv (Int.gcd p q)).natAbs ≤ p.natAbs := Int.natAbs_tdiv_le_natAbs ..
  have e2 : (q.tdiv (Int.gcd p q)).natAbs ≤ q.natAbs := Int.natAbs_tdiv_le_natAbs ..
  have d1 : (lowT p q).1 = p.tdiv (Int.gcd p q) := rfl
  have d2 : (lowT p q).2 = q.tdiv (Int.gcd p q) := rfl
  rw [← d1] at e1
  rw [← d2] at e2
  omega
theorem low_spec (p q : Int) (hp : -1000000000000 ≤ p ∧ p ≤ 1000000000000) (hq : 0 < q ∧ q ≤ 1000000000000) : FnSpec Sy.P 54 [.int p, .int q] [.int p, .int q] (.agg [.int (lowT p q).1, .int (lowT p q).2]) := by
  have hG := gcd_spec p q hp hq
  have hg := gcd_pos (p := p) hq.1
  have hb := lowT_bnd (p := p) hq.1 hp hq.2
  unfold lowT at *
  generalize hd : Int.gcd p q = d at *
  refine FnSpec.enter (S := Sy) 0 Try.func54 rfl rfl rfl Try.ntmps54 rfl rfl rfl rfl fun v0 => ?_
  (repeat' (first | ((with_reducible apply J.step); rfl; exact FM.st) | ((with_reducible apply J.eff); rfl; exact FM.ef) | ((with_reducible apply J.callP (hG)); rfl; rfl; (repeat' (first | exact ArgsOk.nil | apply ArgsOk.cons | exact ArgOk.pl rfl rfl | exact ArgOk.br rfl AV.noConfusion (by first | rfl | exact sh_int | exact sh_rows | exact sh_rowsO | exact sh_box | exact sh_map (fun _ => rfl)))); (first | rfl | exact (fun h => Bool.noConfusion h) | exact (fun _ => noSh_ints) | exact (fun _ => noSh_strs) | exact (fun _ => NoSh.str) | exact (fun _ => noSh_rows) | exact (fun _ => NoSh.int) | exact (fun _ => NoSh.bool) | exact (fun _ => NoSh.nil) | exact (fun _ => noSh_tup2 (by first | exact noSh_ints | exact noSh_strs | exact NoSh.str | exact noSh_rows | exact NoSh.nil | exact NoSh.int | exact NoSh.bool) (by first | exact noSh_ints | exact noSh_strs | exact NoSh.str | exact NoSh.int | exact NoSh.bool | exact noSh_rows | exact NoSh.nil)) | exact (fun _ => noSh_tup3 (by first | exact noSh_ints | exact noSh_strs | exact NoSh.str | exact noSh_rows | exact NoSh.nil | exact NoSh.int | exact NoSh.bool) (by first | exact noSh_ints | exact noSh_strs | exact NoSh.str | exact NoSh.int | exact NoSh.bool | exact noSh_rows | exact NoSh.nil) (by first | exact noSh_ints | exact noSh_strs | exact NoSh.str | exact NoSh.int | exact NoSh.bool | exact noSh_rows | exact NoSh.nil)))) | ((with_reducible apply J.callPQ (hG)); rfl; rfl; (repeat' (first | exact ArgsOk.nil | apply ArgsOk.cons | exact ArgOk.pl rfl rfl | exact ArgOk.br rfl AV.noConfusion (by first | rfl | exact sh_int | exact sh_rows | exact sh_rowsO | exact sh_box | exact sh_map (fun _ => rfl)))); rfl) | ((with_reducible apply J.eqNil); rfl; rfl; rfl; rfl; intro bnil hbnil) | (refine J.takeRow rfl rfl AV.noConfusion rfl (by first | assumption | (simp only [List.length_map]; omega)) ?_) | with_reducible refine J.nil ?_ | ((with_reducible apply J.skipV); rfl; rfl; rfl) | ((with_reducible apply J.skipU); rfl; rfl) | with_reducible refine CW.seq ?_ | with_reducible refine CW.block ?_ | ((with_reducible refine CW.reg ?_ ?_); rfl) | ((with_reducible refine CW.regQN ?_ ?_ ?_ ?_); rfl; kernel_rfl; rfl) | ((with_reducible refine CW.regS 1 ?_ ?_ ?_); kernel_rfl; rfl; simp only [List.length_cons, List.length_nil, Nat.reduceAdd, Nat.reduceSub, List.take_succ_cons, List.take_zero, List.drop_succ_cons, List.drop_zero]) | with_reducible refine CW.skip ?_ | with_reducible refine CW.ret ?_ | with_reducible refine CW.exit ?_ | refine CW.condT rfl ?_ | refine CW.condF rfl ?_ | (refine CW.condD rfl (fun _ => ?_) (fun _ => ?_) <;> (try (exfalso; omega))) | (refine CW.cond rfl (fun _ => ?_) (fun _ => ?_) <;> (try (exfalso; simp only [decide_eq_true_eq, decide_eq_false_iff_not, Bool.and_eq_true, Bool.or_eq_true] at *; omega))) | with_reducible refine thenQ_n ?_ | with_reducible refine blockQ_n ?_ | ((with_reducible refine blockQ_e ?_ ?_); rfl) | ((with_reducible refine blockQ_x ?_ ?_); rfl) | with_reducible refine blockQ_r ?_ | with_reducible refine thenQ_x ?_ | with_reducible refine thenQ_r ?_ | ((fail_if_success ((with_reducible apply J.step); rfl)); (fail_if_success ((with_reducible apply J.skipU); rfl)); refine J.splitG rfl rfl (fun _ => ?_) (fun _ => ?_) <;> (try (exfalso; omega))) | ((fail_if_success ((with_reducible apply J.step); rfl)); (fail_if_success ((with_reducible apply J.skipU); rfl)); refine J.splitB rfl rfl (fun _ => ?_) (fun _ => ?_))))
  all_goals first | (exfalso; omega) | exact .mk rfl rfl rfl
/-- Two right rows. -/
structure Two (g : Nat) (A B : List Int) : Prop where
  g1 : 1 ≤ g
  g6 : g ≤ 6
  la : A.length = g
  lb : B.length = g
  ra : ∀ k, -1000 ≤ A.getD k 0 ∧ A.getD k 0 ≤ 1000
  rb : ∀ k, -1000 ≤ B.getD k 0 ∧ B.getD k 0 ≤ 1000
/-- A place, as whole numbers that are not too large. -/
def okF (f : Int × Int) : Prop := 0 ≤ f.1 ∧ f.1 ≤ f.2 ∧ 0 < f.2 ∧ f.2 ≤ 4000
theorem mulB {x y a b : Int} (hx : -a ≤ x ∧ x ≤ a) (hy : 0 ≤ y ∧ y ≤ b) (ha : 0 ≤ a) : -(a * b) ≤ x * y ∧ x * y ≤ a * b := by
  have h1 : x * y ≤ a * y := Int.mul_le_mul_of_nonneg_right hx.2 hy.1
  have h2 : -a * y ≤ x * y := Int.mul_le_mul_of_nonneg_right hx.1 hy.1
  have h3 : a * y ≤ a * b := Int.mul_le_mul_of_nonneg_left hy.2 ha
  rw [Int.neg_mul] at h2
  omega
theorem vl_bnd {g : Nat} {A B : List Int} (h : Two g A B) {f : Int × Int} (hf : okF f) (k : Nat) : (-4000000 ≤ A.getD k 0 * f.1 ∧ A.getD k 0 * f.1 ≤ 4000000) ∧ (-4000000 ≤ B.getD k 0 * (f.2 - f.1) ∧ B.getD k 0 * (f.2 - f.1) ≤ 4000000) ∧ -4000000 ≤ vl A B f k ∧ vl A B f k ≤ 4000000 := by
  obtain ⟨h1, h2, h3, h4⟩ := hf
  have a1 := mulB (b := 4000) (h.ra k) ⟨h1, by omega⟩ (by decide)
  have a2 := mulB (b := 4000) (h.rb k) (show 0 ≤ f.2 - f.1 ∧ f.2 - f.1 ≤ 4000 by omega) (by decide)
  have a3 := mulB (b := f.1) (h.ra k) ⟨h1, Int.le_refl _⟩ (by decide)
  have a4 := mulB (b := f.2 - f.1) (h.rb k) (show 0 ≤ f.2 - f.1 ∧ f.2 - f.1 ≤ f.2 - f.1 by omega) (by decide)
  have e : vl A B f k = A.getD k 0 * f.1 + B.getD k 0 * (f.2 - f.1) := rfl
  rw [e]
  generalize A.getD k 0 * f.1 = x at *
  generalize B.getD k 0 * (f.2 - f.1) = y at *
  omega
theorem lst_bnd {g : Nat} {A B : List Int} (h : Two g A B) {f : Int × Int} (hf : okF f) (n : Nat) : -4000000 ≤ lst A B f n ∧ lst A B f n ≤ 4000000 := by
  obtain ⟨k, _, e⟩ := lst_mem (A := A) (B := B) (f := f) (n := n)
  rw [e]; exact (vl_bnd h hf k).2.2
theorem getD_at {A : List Int} {k : Nat} (h : k < A.length) : A[k]? = some (A.getD k 0) := by
  rw [List.getD_eq_getElem?_getD, List.getElem?_eq_getElem h]; rfl
theorem least_spec (g : Nat) (A B : List Int) (h : Two g A B) (p q : Int) (hf : okF (p, q)) : FnSpec Sy.P 53 [.sl false 1 (([A, B]).map rwS), .int p, .int q] [.sl false 1 (([A, B]).map rwS), .int p, .int q] (.int (lst A B (p, q) g)) := by
  have hg1 := h.g1; have hg6 := h.g6; have hla := h.la; have hlb := h.lb
  have hM0 : ([A, B] : List (List Int))[0]? = some A := rfl
  have hM1 : ([A, B] : List (List Int))[1]? = some B := rfl
  have hA0 := getD_at (A := A) (k := 0) (by omega)
  have hB0 := getD_at (A := B) (k := 0) (by omega)
  have hv0 := vl_bnd h hf 0
  have hf' := hf
  obtain ⟨f1, f2, f3, f4⟩ := hf'
  simp only at f1 f2 f3 f4
  have e0 : lst A B (p, q) 0 = A.getD 0 0 * p + B.getD 0 0 * (q - p) := rfl
  simp only [vl] at hv0
  refine FnSpec.enter (S := Sy) 0 Try.func53 rfl rfl rfl Try.ntmps53 rfl rfl rfl rfl fun v0 => ?_
  generalize [A, B] = M at *
  (repeat' (first | ((with_reducible apply J.step); rfl; exact FM.st) | ((with_reducible apply J.eff); rfl; exact FM.ef) | ((with_reducible apply J.eqNil); rfl; rfl; rfl; rfl; intro bnil hbnil) | (refine J.takeRow rfl rfl AV.noConfusion rfl (by first | assumption | (simp only [List.length_map]; omega)) ?_) | with_reducible refine J.nil ?_ | ((with_reducible apply J.skipV); rfl; rfl; rfl) | ((with_reducible apply J.skipU); rfl; rfl) | with_reducible refine CW.seq ?_ | with_reducible refine CW.block ?_ | ((with_reducible refine CW.reg ?_ ?_); rfl) | ((with_reducible refine CW.regQN ?_ ?_ ?_ ?_); rfl; kernel_rfl; rfl) | ((with_reducible refine CW.regS 1 ?_ ?_ ?_); kernel_rfl; rfl; simp only [List.length_cons, List.length_nil, Nat.reduceAdd, Nat.reduceSub, List.take_succ_cons, List.take_zero, List.drop_succ_cons, List.drop_zero]) | with_reducible refine CW.skip ?_ | with_reducible refine CW.ret ?_ | with_reducible refine CW.exit ?_ | refine CW.condT rfl ?_ | refine CW.condF rfl ?_ | (refine CW.condD rfl (fun _ => ?_) (fun _ => ?_) <;> (try (exfalso; omega))) | (refine CW.cond rfl (fun _ => ?_) (fun _ => ?_) <;> (try (exfalso; simp only [decide_eq_true_eq, decide_eq_false_iff_not, Bool.and_eq_true, Bool.or_eq_true] at *; omega))) | with_reducible refine thenQ_n ?_ | with_reducible refine blockQ_n ?_ | ((with_reducible refine blockQ_e ?_ ?_); rfl) | ((with_reducible refine blockQ_x ?_ ?_); rfl) | with_reducible refine blockQ_r ?_ | with_reducible refine thenQ_x ?_ | with_reducible refine thenQ_r ?_ | ((fail_if_success ((with_reducible apply J.step); rfl)); (fail_if_success ((with_reducible apply J.skipU); rfl)); refine J.splitG rfl rfl (fun _ => ?_) (fun _ => ?_) <;> (try (exfalso; omega))) | ((fail_if_success ((with_reducible apply J.step); rfl)); (fail_if_success ((with_reducible apply J.skipU); rfl)); refine J.splitB rfl rfl (fun _ => ?_) (fun _ => ?_))))
  all_goals first | (exfalso; omega) | skip
  refine CW.loop (fun k : Nat => [(0, .av (.sl false 1 ((M).map rwS))), (1, .av (.int (p))), (2, .av (.int (q))), (7, .av (.int (lst A B (p, q) k))), (29, .av (.int (g))), (30, .av (.int (k)))]) (fun k => k ≤ g) (fun k => g - k) (0) ?_ (by (repeat' (first | exact trivial | rfl | refine And.intro ?_ ?_ | exact int_congr (by omega) | exact ints_congr (by first | assumption | exact Eq.symm (by assumption)) | exact int_congr (by assumption) | exact bool_congr (by first | assumption | exact Eq.symm (by assumption)) | exact map_congr' (by first | assumption | exact Eq.symm (by assumption)) | exact int_congr e0.symm))) ?_
  · exact Nat.zero_le _
  intro k hk
  by_cases hlt : k < g
  · have hAk := getD_at (A := A) (k := k) (by omega)
    have hBk := getD_at (A := B) (k := k) (by omega)
    have hvk := vl_bnd h hf k
    have hlb2 := lst_bnd h hf k
    have e1 : lst A B (p, q) (k + 1) = min (lst A B (p, q) k) (A.getD k 0 * p + B.getD k 0 * (q - p)) := rfl
    simp only [vl] at hvk
    generalize lst A B (p, q) k = l0 at *
    generalize A.getD k 0 = x at *
    generalize B.getD k 0 = y at *
    (repeat' (first | ((with_reducible apply J.step); rfl; exact FM.st) | ((with_reducible apply J.eff); rfl; exact FM.ef) | ((with_reducible apply J.eqNil); rfl; rfl; rfl; rfl; intro bnil hbnil) | (refine J.takeRow rfl rfl AV.noConfusion rfl (by first | assumption | (simp only [List.length_map]; omega)) ?_) | with_reducible refine J.nil ?_ | ((with_reducible apply J.skipV); rfl; rfl; rfl) | ((with_reducible apply J.skipU); rfl; rfl) | with_reducible refine CW.seq ?_ | with_reducible refine CW.block ?_ | ((with_reducible refine CW.reg ?_ ?_); rfl) | ((with_reducible refine CW.regQN ?_ ?_ ?_ ?_); rfl; kernel_rfl; rfl) | ((with_reducible refine CW.regS 1 ?_ ?_ ?_); kernel_rfl; rfl; simp only [List.length_cons, List.length_nil, Nat.reduceAdd, Nat.reduceSub, List.take_succ_cons, List.take_zero, List.drop_succ_cons, List.drop_zero]) | with_reducible refine CW.skip ?_ | with_reducible refine CW.ret ?_ | with_reducible refine CW.exit ?_ | refine CW.condT rfl ?_ | refine CW.condF rfl ?_ | (refine CW.condD rfl (fun _ => ?_) (fun _ => ?_) <;> (try (exfalso; omega))) | (refine CW.cond rfl (fun _ => ?_) (fun _ => ?_) <;> (try (exfalso; simp only [decide_eq_true_eq, decide_eq_false_iff_not, Bool.and_eq_true, Bool.or_eq_true] at *; omega))) | with_reducible refine thenQ_n ?_ | with_reducible refine blockQ_n ?_ | ((with_reducible refine blockQ_e ?_ ?_); rfl) | ((with_reducible refine blockQ_x ?_ ?_); rfl) | with_reducible refine blockQ_r ?_ | with_reducible refine thenQ_x ?_ | with_reducible refine thenQ_r ?_ | ((fail_if_success ((with_reducible apply J.step); rfl)); (fail_if_success ((with_reducible apply J.skipU); rfl)); refine J.splitG rfl rfl (fun _ => ?_) (fun _ => ?_) <;> (try (exfalso; omega))) | ((fail_if_success ((with_reducible apply J.step); rfl)); (fail_if_success ((with_reducible apply J.skipU); rfl)); refine J.splitB rfl rfl (fun _ => ?_) (fun _ => ?_))))
    all_goals first | (exfalso; omega) | skip
    refine ⟨k+1, ?_, by first | omega | (simp only; omega), by (repeat' (first | exact trivial | rfl | refine And.intro ?_ ?_ | exact int_congr (by omega) | exact ints_congr (by first | assumption | exact Eq.symm (by assumption)) | exact int_congr (by assumption) | exact bool_congr (by first | assumption | exact Eq.symm (by assumption)) | exact map_congr' (by first | assumption | exact Eq.symm (by assumption)) | exact int_congr e1.symm))⟩
    omega
  · obtain rfl : k = g := by omega
    (repeat' (first | ((with_reducible apply J.step); rfl; exact FM.st) | ((with_reducible apply J.eff); rfl; exact FM.ef) | ((with_reducible apply J.eqNil); rfl; rfl; rfl; rfl; intro bnil hbnil) | (refine J.takeRow rfl rfl AV.noConfusion rfl (by first | assumption | (simp only [List.length_map]; omega)) ?_) | with_reducible refine J.nil ?_ | ((with_reducible apply J.skipV); rfl; rfl; rfl) | ((with_reducible apply J.skipU); rfl; rfl) | with_reducible refine CW.seq ?_ | with_reducible refine CW.block ?_ | ((with_reducible refine CW.reg ?_ ?_); rfl) | ((with_reducible refine CW.regQN ?_ ?_ ?_ ?_); rfl; kernel_rfl; rfl) | ((with_reducible refine CW.regS 1 ?_ ?_ ?_); kernel_rfl; rfl; simp only [List.length_cons, List.length_nil, Nat.reduceAdd, Nat.reduceSub, List.take_succ_cons, List.take_zero, List.drop_succ_cons, List.drop_zero]) | with_reducible refine CW.skip ?_ | with_reducible refine CW.ret ?_ | with_reducible refine CW.exit ?_ | refine CW.condT rfl ?_ | refine CW.condF rfl ?_ | (refine CW.condD rfl (fun _ => ?_) (fun _ => ?_) <;> (try (exfalso; omega))) | (refine CW.cond rfl (fun _ => ?_) (fun _ => ?_) <;> (try (exfalso; simp only [decide_eq_true_eq, decide_eq_false_iff_not, Bool.and_eq_true, Bool.or_eq_true] at *; omega))) | with_reducible refine thenQ_n ?_ | with_reducible refine blockQ_n ?_ | ((with_reducible refine blockQ_e ?_ ?_); rfl) | ((with_reducible refine blockQ_x ?_ ?_); rfl) | with_reducible refine blockQ_r ?_ | with_reducible refine thenQ_x ?_ | with_reducible refine thenQ_r ?_ | ((fail_if_success ((with_reducible apply J.step); rfl)); (fail_if_success ((with_reducible apply J.skipU); rfl)); refine J.splitG rfl rfl (fun _ => ?_) (fun _ => ?_) <;> (try (exfalso; omega))) | ((fail_if_success ((with_reducible apply J.step); rfl)); (fail_if_success ((with_reducible apply J.skipU); rfl)); refine J.splitB rfl rfl (fun _ => ?_) (fun _ => ?_))))
    all_goals first | (exfalso; omega) | exact .mk rfl rfl rfl
end Go.Proofs.Ytohgcgedbhlnfaa
