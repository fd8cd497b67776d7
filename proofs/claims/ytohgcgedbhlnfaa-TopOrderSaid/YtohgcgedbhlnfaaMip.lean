/- The order that is nearest to all. -/
import Derived.Test.YtohgcgedbhlnfaaVdp
import Derived.Test.YtohgcgedbhlnfaaOup
namespace Go.Proofs.Ytohgcgedbhlnfaa
open Go FM
set_option maxRecDepth 10000
set_option maxHeartbeats 1600000
set_option linter.all false
/-! ### sums over the pairs of a row -/
def farG (g : Int → Int → Nat) : List Int → Nat
  | [] => 0
  | x :: r => (r.map (g x)).sum + farG g r
theorem farG_drop {g : Int → Int → Nat} {p : List Int} {k : Nat} (h : k < p.length) : farG g (p.drop k) = ((p.drop (k + 1)).map (g p[k])).sum + farG g (p.drop (k + 1)) := by
  rw [List.drop_eq_getElem_cons h]; rfl
theorem farG_add (g h : Int → Int → Nat) : ∀ p : List Int, farG (fun x y => g x y + h x y) p = farG g p + farG h p
  | [] => rfl
  | x :: r => by
    have e : ∀ l : List Int, (l.map fun y => g x y + h x y).sum = (l.map (g x)).sum + (l.map (h x)).sum := fun l => by
      induction l with
      | nil => rfl
      | cons a l ih => simp only [List.map_cons, List.sum_cons, ih]; omega
    simp only [farG, e, farG_add g h r]; omega
theorem farG_zero : ∀ p : List Int, farG (fun _ _ => 0) p = 0
  | [] => rfl
  | x :: r => by
    have e : ∀ l : List Int, (l.map fun _ => 0).sum = 0 := fun l => by
      induction l with
      | nil => rfl
      | cons a l ih => simp [ih]
    simp only [farG, e, farG_zero r]
theorem far_farG (q : List Int) : ∀ p : List Int, far q p = farG (fun x y => if ix q y < ix q x then 1 else 0) p
  | [] => rfl
  | x :: r => by
    have e : ∀ l : List Int, farIn q x l = (l.map fun y => if ix q y < ix q x then 1 else 0).sum := fun l => by
      induction l with
      | nil => rfl
      | cons a l ih => simp only [farIn, List.map_cons, List.sum_cons, ih]
    simp only [far, farG, e, far_farG q r]
def cntI (V : List (List Int)) (x y : Int) : Nat := V.countP fun q => decide (ix q y < ix q x)
theorem farG_cnt (p : List Int) : ∀ V : List (List Int), farG (cntI V) p = (V.map fun q => far q p).sum
  | [] => farG_zero p
  | q :: V => by
    rw [List.map_cons, List.sum_cons, ← farG_cnt p V, far_farG, ← farG_add]
    congr 1
    funext x y
    unfold cntI
    rw [List.countP_cons]
    simp only [decide_eq_true_eq]
    omega
def dsum (n : Nat) (V : List (List Int)) (p : List Int) : Nat := (V.map fun q => btw n p q).sum
theorem dsum_farG {n : Nat} {V : List (List Int)} {p : List Int} (h : ∀ q ∈ V, okO n q) (hp : okO n p) : farG (cntI V) p = dsum n V p := by
  rw [farG_cnt]
  unfold dsum
  rw [List.map_congr_left fun q hq => far_btw hp (h q hq)]
theorem btw_le {n : Nat} {p q : List Int} (hn : n ≤ 6) : btw n p q ≤ 36 := by
  have h1 := sm_le (n := n) (f := fun x => sm x fun y => if decide (ix p x < ix p y) ≠ decide (ix q x < ix q y) then 1 else 0) (m := 6) fun x hx => by
    have := sm_le (n := x) (f := fun y => if decide (ix p x < ix p y) ≠ decide (ix q x < ix q y) then 1 else 0) (m := 1) fun y _ => by split <;> omega
    omega
  unfold btw; omega
theorem dsum_take {n : Nat} {V : List (List Int)} {p : List Int} {k : Nat} (h : k < V.length) : dsum n (V.take (k + 1)) p = dsum n (V.take k) p + btw n p V[k] := by
  unfold dsum; rw [List.take_succ_eq_append_getElem h, List.map_append, List.sum_append]; simp
theorem dsum_le {n : Nat} {p : List Int} (hn : n ≤ 6) : ∀ V : List (List Int), dsum n V p ≤ 36 * V.length
  | [] => by simp [dsum]
  | q :: V => by
    have := dsum_le (p := p) hn V
    have := btw_le (p := p) (q := q) hn
    unfold dsum at *
    rw [List.map_cons, List.sum_cons, List.length_cons]; omega
/-! ### how far from all -/
theorem orderE_zero {n : Nat} {p : List Int} (h1 : 1 ≤ n) (h6 : n ≤ 6) (h : okO n p) : orderE n p = 0 := by unfold orderE; rw [if_neg (by omega), if_pos h]
/-! ### the best -/
def bestS (d : List Int → Nat) (o : Option (List Int × Nat)) (p : List Int) : Option (List Int × Nat) := match o with
  | none => some (p, d p)
  | some (b, m) => if d p < m then some (p, d p) else some (b, m)
def bestP (d : List Int → Nat) (l : List (List Int)) : Option (List Int × Nat) := l.foldl (bestS d) none
theorem bestP_take {d : List Int → Nat} {l : List (List Int)} {k : Nat} (h : k < l.length) : bestP d (l.take (k + 1)) = bestS d (bestP d (l.take k)) l[k] := by
  unfold bestP; rw [List.take_succ_eq_append_getElem h, List.foldl_append]; rfl
theorem bestP_inv {d : List Int → Nat} : ∀ (l : List (List Int)) (o : Option (List Int × Nat)) (P : List Int → Prop), (∀ p ∈ l, P p) → (∀ b m, o = some (b, m) → P b ∧ m = d b) → ∀ b m, l.foldl (bestS d) o = some (b, m) → P b ∧ m = d b
  | [], o, P, _, h, b, m, e => h b m e
  | p :: l, o, P, hl, h, b, m, e => by
    refine bestP_inv l (bestS d o p) P (fun q hq => hl q (List.mem_cons_of_mem _ hq)) (fun b' m' e' => ?_) b m e
    cases o with
    | none => simp only [bestS, Option.some.injEq, Prod.mk.injEq] at e'; obtain ⟨rfl, rfl⟩ := e'; exact ⟨hl _ (List.mem_cons_self ..), rfl⟩
    | some bm =>
      obtain ⟨b0, m0⟩ := bm
      simp only [bestS] at e'
      split at e'
      · simp only [Option.some.injEq, Prod.mk.injEq] at e'; obtain ⟨rfl, rfl⟩ := e'; exact ⟨hl _ (List.mem_cons_self ..), rfl⟩
      · simp only [Option.some.injEq, Prod.mk.injEq] at e'; obtain ⟨rfl, rfl⟩ := e'; exact h _ _ rfl
theorem bestS_some {d : List Int → Nat} {o : Option (List Int × Nat)} {p : List Int} : ∃ b m, bestS d o p = some (b, m) := by
  cases o with
  | none => exact ⟨_, _, rfl⟩
  | some bm => obtain ⟨b, m⟩ := bm; simp only [bestS]; split <;> exact ⟨_, _, rfl⟩
theorem bestP_some {d : List Int → Nat} {l : List (List Int)} (h : 0 < l.length) : ∃ b m, bestP d l = some (b, m) := by
  have e : l = l.take ((l.length - 1) + 1) := by rw [List.take_of_length_le (by omega)]
  rw [e, bestP_take (by omega)]
  exact bestS_some
theorem allO_ok {n : Nat} : ∀ r ∈ allOrders n (iota n), n ≤ 6 → okO n r := fun r hr hn => by
  have hd : ∀ n, n ≤ 6 → ((allOrders n (iota n)).all fun r => decide (okO n r)) = true := fun n hn => by
    match n, hn with
    | 0, _ => decide +kernel
    | 1, _ => decide +kernel
    | 2, _ => decide +kernel
    | 3, _ => decide +kernel
    | 4, _ => decide +kernel
    | 5, _ => decide +kernel
    | 6, _ => decide +kernel
    | n + 7, h => omega
  exact of_decide_eq_true (List.all_eq_true.1 (hd n hn) r hr)
def bsV : Option (List Int × Nat) → AV
  | none => .nil
  | some (b, _) => .sl false 1 ((b).map .int)
def bsN (z : Int) : Option (List Int × Nat) → Int
  | none => z
  | some (_, m) => ((m : Nat) : Int)
theorem mBest_spec (n : Nat) (V : List (List Int)) (h : VOk n V) (b : List Int) (m : Nat) (hb : bestP (dsum n V) (allOrders n (iota n)) = some (b, m)) (hC : FnSpec Sy.P 66 [.int n, .sl false 1 ((V).map rwS)] [.int n, .sl false 1 ((V).map rwS)] (.int 0)) : FnSpec Sy.P 29 [.int n, .sl false 1 ((V).map rwS)] [.int n, .sl false 1 ((V).map rwS)] (.tup [.sl false 1 ((b).map .int), .int m, .int 0]) := by
  have h1 := h.n1; have h6 := h.n6; have hV := h.len
  have hD := duels_spec n V h hC
  have hA := orderAll_spec n h1 h6
  rw [lv_eq n h6] at hA
  have hl := allOrders_length n (iota n) (iota_length n)
  have hf := fact_le n h6
  have hok := fun r hr => @allO_ok n r hr h6
  have hgf : ∀ a b : Nat, ((cnt V a b : Nat) : Int) = ((cntI V b a : Nat) : Int) := fun a b => rfl
  have hgb : ∀ a b : Nat, cnt V a b ≤ 30 := fun a b => by have := @cnt_le V a b; omega
  generalize hcf : (fun a b : Nat => ((cnt V a b : Nat) : Int)) = f at *
  have hml : (mtx n n f).length = n := mtx_length
  generalize allOrders n (iota n) = R at *
  refine FnSpec.enter (S := Sy) 0 Try.func29 rfl rfl rfl Try.ntmps29 rfl rfl rfl rfl fun v0 => ?_
  (repeat' (first | (refine J.freezeO 9 rfl rfl sh_rows rfl ?_) | ((with_reducible apply J.step); rfl; exact FM.st) | ((with_reducible apply J.eff); rfl; exact FM.ef) | ((with_reducible apply J.callP (hD)); rfl; rfl; (repeat' (first | exact ArgsOk.nil | apply ArgsOk.cons | exact ArgOk.pl rfl rfl | exact ArgOk.br rfl AV.noConfusion (by first | rfl | exact sh_int | exact sh_rows | exact sh_rowsO | exact sh_box | exact sh_map (fun _ => rfl)))); (first | rfl | exact (fun h => Bool.noConfusion h) | exact (fun _ => noSh_ints) | exact (fun _ => noSh_strs) | exact (fun _ => NoSh.str) | exact (fun _ => noSh_rows) | exact (fun _ => NoSh.int) | exact (fun _ => NoSh.bool) | exact (fun _ => NoSh.nil) | exact (fun _ => noSh_tup2 (by first | exact noSh_ints | exact noSh_strs | exact NoSh.str | exact noSh_rows | exact NoSh.nil | exact NoSh.int | exact NoSh.bool) (by first | exact noSh_ints | exact noSh_strs | exact NoSh.str | exact NoSh.int | exact NoSh.bool | exact noSh_rows | exact NoSh.nil)) | exact (fun _ => noSh_tup3 (by first | exact noSh_ints | exact noSh_strs | exact NoSh.str | exact noSh_rows | exact NoSh.nil | exact NoSh.int | exact NoSh.bool) (by first | exact noSh_ints | exact noSh_strs | exact NoSh.str | exact NoSh.int | exact NoSh.bool | exact noSh_rows | exact NoSh.nil) (by first | exact noSh_ints | exact noSh_strs | exact NoSh.str | exact NoSh.int | exact NoSh.bool | exact noSh_rows | exact NoSh.nil)))) | ((with_reducible apply J.callPQ (hD)); rfl; rfl; (repeat' (first | exact ArgsOk.nil | apply ArgsOk.cons | exact ArgOk.pl rfl rfl | exact ArgOk.br rfl AV.noConfusion (by first | rfl | exact sh_int | exact sh_rows | exact sh_rowsO | exact sh_box | exact sh_map (fun _ => rfl)))); rfl) | ((with_reducible apply J.callP (hA)); rfl; rfl; (repeat' (first | exact ArgsOk.nil | apply ArgsOk.cons | exact ArgOk.pl rfl rfl | exact ArgOk.br rfl AV.noConfusion (by first | rfl | exact sh_int | exact sh_rows | exact sh_rowsO | exact sh_box | exact sh_map (fun _ => rfl)))); (first | rfl | exact (fun h => Bool.noConfusion h) | exact (fun _ => noSh_ints) | exact (fun _ => noSh_strs) | exact (fun _ => NoSh.str) | exact (fun _ => noSh_rows) | exact (fun _ => NoSh.int) | exact (fun _ => NoSh.bool) | exact (fun _ => NoSh.nil) | exact (fun _ => noSh_tup2 (by first | exact noSh_ints | exact noSh_strs | exact NoSh.str | exact noSh_rows | exact NoSh.nil | exact NoSh.int | exact NoSh.bool) (by first | exact noSh_ints | exact noSh_strs | exact NoSh.str | exact NoSh.int | exact NoSh.bool | exact noSh_rows | exact NoSh.nil)) | exact (fun _ => noSh_tup3 (by first | exact noSh_ints | exact noSh_strs | exact NoSh.str | exact noSh_rows | exact NoSh.nil | exact NoSh.int | exact NoSh.bool) (by first | exact noSh_ints | exact noSh_strs | exact NoSh.str | exact NoSh.int | exact NoSh.bool | exact noSh_rows | exact NoSh.nil) (by first | exact noSh_ints | exact noSh_strs | exact NoSh.str | exact NoSh.int | exact NoSh.bool | exact noSh_rows | exact NoSh.nil)))) | ((with_reducible apply J.callPQ (hA)); rfl; rfl; (repeat' (first | exact ArgsOk.nil | apply ArgsOk.cons | exact ArgOk.pl rfl rfl | exact ArgOk.br rfl AV.noConfusion (by first | rfl | exact sh_int | exact sh_rows | exact sh_rowsO | exact sh_box | exact sh_map (fun _ => rfl)))); rfl) | ((with_reducible apply J.eqNil); rfl; rfl; rfl; rfl; intro bnil hbnil) | (refine J.takeRow rfl rfl AV.noConfusion rfl (by first | assumption | (simp only [List.length_map]; omega)) ?_) | with_reducible refine J.nil ?_ | ((with_reducible apply J.skipV); rfl; rfl; rfl) | ((with_reducible apply J.skipU); rfl; rfl) | with_reducible refine CW.seq ?_ | with_reducible refine CW.block ?_ | ((with_reducible refine CW.reg ?_ ?_); rfl) | ((with_reducible refine CW.regQN ?_ ?_ ?_ ?_); rfl; kernel_rfl; rfl) | ((with_reducible refine CW.regS 1 ?_ ?_ ?_); kernel_rfl; rfl; simp only [List.length_cons, List.length_nil, Nat.reduceAdd, Nat.reduceSub, List.take_succ_cons, List.take_zero, List.drop_succ_cons, List.drop_zero]) | with_reducible refine CW.skip ?_ | with_reducible refine CW.ret ?_ | with_reducible refine CW.exit ?_ | refine CW.condT rfl ?_ | refine CW.condF rfl ?_ | (refine CW.condD rfl (fun _ => ?_) (fun _ => ?_) <;> (try (exfalso; omega))) | (refine CW.cond rfl (fun _ => ?_) (fun _ => ?_) <;> (try (exfalso; simp only [decide_eq_true_eq, decide_eq_false_iff_not, Bool.and_eq_true, Bool.or_eq_true] at *; omega))) | with_reducible refine thenQ_n ?_ | with_reducible refine blockQ_n ?_ | ((with_reducible refine blockQ_e ?_ ?_); rfl) | ((with_reducible refine blockQ_x ?_ ?_); rfl) | with_reducible refine blockQ_r ?_ | with_reducible refine thenQ_x ?_ | with_reducible refine thenQ_r ?_ | ((fail_if_success ((with_reducible apply J.step); rfl)); (fail_if_success ((with_reducible apply J.skipU); rfl)); refine J.splitG rfl rfl (fun _ => ?_) (fun _ => ?_) <;> (try (exfalso; omega))) | ((fail_if_success ((with_reducible apply J.step); rfl)); (fail_if_success ((with_reducible apply J.skipU); rfl)); refine J.splitB rfl rfl (fun _ => ?_) (fun _ => ?_))))
  refine CW.loop (fun k : Nat => [(7, .av (.sl true 1 ((mtx n n f).map rwO))), (11, .av (bsV (bestP (dsum n V) (R.take k)))), (12, .av (.int (bsN (-1) (bestP (dsum n V) (R.take k))))), (34, .av (.sl false 1 ((R).map rwS))), (35, .av (.int (R.length))), (36, .av (.int (k)))]) (fun k => k ≤ R.length) (fun k => R.length - k) (0) ?_ (by (repeat' (first | exact trivial | rfl | refine And.intro ?_ ?_ | exact int_congr (by omega) | exact ints_congr (by first | assumption | exact Eq.symm (by assumption)) | exact int_congr (by assumption) | exact bool_congr (by first | assumption | exact Eq.symm (by assumption)) | exact map_congr' (by first | assumption | exact Eq.symm (by assumption))))) ?_
  · exact Nat.zero_le _
  intro k hk
  by_cases hlt : k < R.length
  · have hx : R[k]? = some R[k] := List.getElem?_eq_getElem hlt
    have hp := hok _ (List.getElem_mem hlt)
    have hs := bestP_take (d := dsum n V) hlt
    have hpl : R[k].length = n := by have := hp.2.2; omega
    have hdg := dsum_farG h.ok hp
    have hdl := dsum_le (p := R[k]) h6 V
    generalize R[k] = p at *
    generalize bestP (dsum n V) (R.take k) = o at *
    (repeat' (first | ((with_reducible apply J.step); rfl; exact FM.st) | ((with_reducible apply J.eff); rfl; exact FM.ef) | ((with_reducible apply J.eqNil); rfl; rfl; rfl; rfl; intro bnil hbnil) | (refine J.takeRow rfl rfl AV.noConfusion rfl (by first | assumption | (simp only [List.length_map]; omega)) ?_) | with_reducible refine J.nil ?_ | ((with_reducible apply J.skipV); rfl; rfl; rfl) | ((with_reducible apply J.skipU); rfl; rfl) | with_reducible refine CW.seq ?_ | with_reducible refine CW.block ?_ | ((with_reducible refine CW.reg ?_ ?_); rfl) | ((with_reducible refine CW.regQN ?_ ?_ ?_ ?_); rfl; kernel_rfl; rfl) | ((with_reducible refine CW.regS 1 ?_ ?_ ?_); kernel_rfl; rfl; simp only [List.length_cons, List.length_nil, Nat.reduceAdd, Nat.reduceSub, List.take_succ_cons, List.take_zero, List.drop_succ_cons, List.drop_zero]) | with_reducible refine CW.skip ?_ | with_reducible refine CW.ret ?_ | with_reducible refine CW.exit ?_ | refine CW.condT rfl ?_ | refine CW.condF rfl ?_ | (refine CW.condD rfl (fun _ => ?_) (fun _ => ?_) <;> (try (exfalso; omega))) | (refine CW.cond rfl (fun _ => ?_) (fun _ => ?_) <;> (try (exfalso; simp only [decide_eq_true_eq, decide_eq_false_iff_not, Bool.and_eq_true, Bool.or_eq_true] at *; omega))) | with_reducible refine thenQ_n ?_ | with_reducible refine blockQ_n ?_ | ((with_reducible refine blockQ_e ?_ ?_); rfl) | ((with_reducible refine blockQ_x ?_ ?_); rfl) | with_reducible refine blockQ_r ?_ | with_reducible refine thenQ_x ?_ | with_reducible refine thenQ_r ?_ | ((fail_if_success ((with_reducible apply J.step); rfl)); (fail_if_success ((with_reducible apply J.skipU); rfl)); refine J.splitG rfl rfl (fun _ => ?_) (fun _ => ?_) <;> (try (exfalso; omega))) | ((fail_if_success ((with_reducible apply J.step); rfl)); (fail_if_success ((with_reducible apply J.skipU); rfl)); refine J.splitB rfl rfl (fun _ => ?_) (fun _ => ?_))))
    refine CW.loop (fun s : Nat × Nat => [(7, .av (.sl true 1 ((mtx n n f).map rwO))), (11, .av (bsV o)), (12, .av (.int (bsN (-1) o))), (14, .av (.sl false 1 ((p).map .int))), (15, .av (.int (((s.2 : Nat) : Int)))), (34, .av (.sl false 1 ((R).map rwS))), (35, .av (.int (R.length))), (36, .av (.int (k))), (40, .av (.sl false 1 ((p).map .int))), (41, .av (.int (p.length))), (42, .av (.int (s.1)))]) (fun s => s.1 ≤ p.length ∧ s.2 + farG (cntI V) (p.drop s.1) = farG (cntI V) p) (fun s => p.length - s.1) ((0, 0)) ?_ (by (repeat' (first | exact trivial | rfl | refine And.intro ?_ ?_ | exact int_congr (by omega) | exact ints_congr (by first | assumption | exact Eq.symm (by assumption)) | exact int_congr (by assumption) | exact bool_congr (by first | assumption | exact Eq.symm (by assumption)) | exact map_congr' (by first | assumption | exact Eq.symm (by assumption))))) ?_
    · exact ⟨Nat.zero_le _, by simp⟩
    intro ⟨i, a⟩ ⟨hi, ha⟩
    dsimp only at hi ha ⊢
    by_cases hil : i < p.length
    · have hpx : p[i]? = some p[i] := List.getElem?_eq_getElem hil
      have hxr := hp.1 _ (List.getElem_mem hil)
      obtain ⟨x, hxe⟩ : ∃ x : Nat, p[i] = x := ⟨(p[i]).toNat, by omega⟩
      rw [farG_drop hil] at ha
      rw [hxe] at hpx hxr ha
      have hde : p.drop ((i : Int) + 1).toNat = p.drop (i + 1) := by congr 1
      have hdl2 : (p.drop ((i : Int) + 1).toNat).length = p.length - (i + 1) := by rw [hde, List.length_drop]
      have hdm : ∀ y ∈ p.drop ((i : Int) + 1).toNat, 0 ≤ y ∧ y < n := fun y hy => hp.1 y (List.mem_of_mem_drop hy)
      rw [← hde] at ha
      (repeat' (first | ((with_reducible apply J.step); rfl; exact FM.st) | ((with_reducible apply J.eff); rfl; exact FM.ef) | ((with_reducible apply J.eqNil); rfl; rfl; rfl; rfl; intro bnil hbnil) | (refine J.takeRow rfl rfl AV.noConfusion rfl (by first | assumption | (simp only [List.length_map]; omega)) ?_) | with_reducible refine J.nil ?_ | ((with_reducible apply J.skipV); rfl; rfl; rfl) | ((with_reducible apply J.skipU); rfl; rfl) | with_reducible refine CW.seq ?_ | with_reducible refine CW.block ?_ | ((with_reducible refine CW.reg ?_ ?_); rfl) | ((with_reducible refine CW.regQN ?_ ?_ ?_ ?_); rfl; kernel_rfl; rfl) | ((with_reducible refine CW.regS 1 ?_ ?_ ?_); kernel_rfl; rfl; simp only [List.length_cons, List.length_nil, Nat.reduceAdd, Nat.reduceSub, List.take_succ_cons, List.take_zero, List.drop_succ_cons, List.drop_zero]) | with_reducible refine CW.skip ?_ | with_reducible refine CW.ret ?_ | with_reducible refine CW.exit ?_ | refine CW.condT rfl ?_ | refine CW.condF rfl ?_ | (refine CW.condD rfl (fun _ => ?_) (fun _ => ?_) <;> (try (exfalso; omega))) | (refine CW.cond rfl (fun _ => ?_) (fun _ => ?_) <;> (try (exfalso; simp only [decide_eq_true_eq, decide_eq_false_iff_not, Bool.and_eq_true, Bool.or_eq_true] at *; omega))) | with_reducible refine thenQ_n ?_ | with_reducible refine blockQ_n ?_ | ((with_reducible refine blockQ_e ?_ ?_); rfl) | ((with_reducible refine blockQ_x ?_ ?_); rfl) | with_reducible refine blockQ_r ?_ | with_reducible refine thenQ_x ?_ | with_reducible refine thenQ_r ?_ | ((fail_if_success ((with_reducible apply J.step); rfl)); (fail_if_success ((with_reducible apply J.skipU); rfl)); refine J.splitG rfl rfl (fun _ => ?_) (fun _ => ?_) <;> (try (exfalso; omega))) | ((fail_if_success ((with_reducible apply J.step); rfl)); (fail_if_success ((with_reducible apply J.skipU); rfl)); refine J.splitB rfl rfl (fun _ => ?_) (fun _ => ?_))))
      generalize hrr : p.drop ((i : Int) + 1).toNat = rr at *
      refine CW.loop (fun t : Nat × Nat => [(7, .av (.sl true 1 ((mtx n n f).map rwO))), (11, .av (bsV o)), (12, .av (.int (bsN (-1) o))), (14, .av (.sl false 1 ((p).map .int))), (15, .av (.int (((t.2 : Nat) : Int)))), (17, .av (.int (x))), (34, .av (.sl false 1 ((R).map rwS))), (35, .av (.int (R.length))), (36, .av (.int (k))), (40, .av (.sl false 1 ((p).map .int))), (41, .av (.int (p.length))), (42, .av (.int (i))), (50, .av (.sl false 1 ((rr).map .int))), (51, .av (.int (rr.length))), (52, .av (.int (t.1)))]) (fun t => t.1 ≤ rr.length ∧ t.2 + ((rr.drop t.1).map (cntI V x)).sum = a + (rr.map (cntI V x)).sum) (fun t => rr.length - t.1) ((0, a)) ?_ (by (repeat' (first | exact trivial | rfl | refine And.intro ?_ ?_ | exact int_congr (by omega) | exact ints_congr (by first | assumption | exact Eq.symm (by assumption)) | exact int_congr (by assumption) | exact bool_congr (by first | assumption | exact Eq.symm (by assumption)) | exact map_congr' (by first | assumption | exact Eq.symm (by assumption))))) ?_
      · exact ⟨Nat.zero_le _, by simp⟩
      intro ⟨j, a2⟩ ⟨hj, ha2⟩
      dsimp only at hj ha2 ⊢
      by_cases hjl : j < rr.length
      · have hpy : rr[j]? = some rr[j] := List.getElem?_eq_getElem hjl
        have hyr := hdm _ (List.getElem_mem hjl)
        obtain ⟨y, hye⟩ : ∃ y : Nat, rr[j] = y := ⟨(rr[j]).toNat, by omega⟩
        rw [List.drop_eq_getElem_cons hjl, List.map_cons, List.sum_cons] at ha2
        rw [hye] at hpy hyr ha2
        have g1 := mtx_get (n := n) (m := n) (f := f) (x := y) (by omega)
        have g2 := tb_get (g := f y) (x := x) (n := n) (by omega)
        have gv : f y x = ((cntI V x y : Nat) : Int) := by rw [← hcf]; rfl
        have gb : cntI V x y ≤ 30 := hgb y x
        rw [gv] at g2
        generalize cntI V x y = w at *
        (repeat' (first | ((with_reducible apply J.step); rfl; exact FM.st) | ((with_reducible apply J.eff); rfl; exact FM.ef) | ((with_reducible apply J.eqNil); rfl; rfl; rfl; rfl; intro bnil hbnil) | (refine J.takeRow rfl rfl AV.noConfusion rfl (by first | assumption | (simp only [List.length_map]; omega)) ?_) | with_reducible refine J.nil ?_ | ((with_reducible apply J.skipV); rfl; rfl; rfl) | ((with_reducible apply J.skipU); rfl; rfl) | with_reducible refine CW.seq ?_ | with_reducible refine CW.block ?_ | ((with_reducible refine CW.reg ?_ ?_); rfl) | ((with_reducible refine CW.regQN ?_ ?_ ?_ ?_); rfl; kernel_rfl; rfl) | ((with_reducible refine CW.regS 1 ?_ ?_ ?_); kernel_rfl; rfl; simp only [List.length_cons, List.length_nil, Nat.reduceAdd, Nat.reduceSub, List.take_succ_cons, List.take_zero, List.drop_succ_cons, List.drop_zero]) | with_reducible refine CW.skip ?_ | with_reducible refine CW.ret ?_ | with_reducible refine CW.exit ?_ | refine CW.condT rfl ?_ | refine CW.condF rfl ?_ | (refine CW.condD rfl (fun _ => ?_) (fun _ => ?_) <;> (try (exfalso; omega))) | (refine CW.cond rfl (fun _ => ?_) (fun _ => ?_) <;> (try (exfalso; simp only [decide_eq_true_eq, decide_eq_false_iff_not, Bool.and_eq_true, Bool.or_eq_true] at *; omega))) | with_reducible refine thenQ_n ?_ | with_reducible refine blockQ_n ?_ | ((with_reducible refine blockQ_e ?_ ?_); rfl) | ((with_reducible refine blockQ_x ?_ ?_); rfl) | with_reducible refine blockQ_r ?_ | with_reducible refine thenQ_x ?_ | with_reducible refine thenQ_r ?_ | ((fail_if_success ((with_reducible apply J.step); rfl)); (fail_if_success ((with_reducible apply J.skipU); rfl)); refine J.splitG rfl rfl (fun _ => ?_) (fun _ => ?_) <;> (try (exfalso; omega))) | ((fail_if_success ((with_reducible apply J.step); rfl)); (fail_if_success ((with_reducible apply J.skipU); rfl)); refine J.splitB rfl rfl (fun _ => ?_) (fun _ => ?_))))
        refine ⟨(j + 1, a2 + w), ?_, by first | omega | (simp only; omega), by (repeat' (first | exact trivial | rfl | refine And.intro ?_ ?_ | exact int_congr (by omega) | exact ints_congr (by first | assumption | exact Eq.symm (by assumption)) | exact int_congr (by assumption) | exact bool_congr (by first | assumption | exact Eq.symm (by assumption)) | exact map_congr' (by first | assumption | exact Eq.symm (by assumption))))⟩
        exact ⟨by simp only; omega, by simp only; omega⟩
      · obtain rfl : j = rr.length := by omega
        rw [List.drop_length] at ha2
        simp only [List.map_nil, List.sum_nil, Nat.add_zero] at ha2
        (repeat' (first | ((with_reducible apply J.step); rfl; exact FM.st) | ((with_reducible apply J.eff); rfl; exact FM.ef) | ((with_reducible apply J.eqNil); rfl; rfl; rfl; rfl; intro bnil hbnil) | (refine J.takeRow rfl rfl AV.noConfusion rfl (by first | assumption | (simp only [List.length_map]; omega)) ?_) | with_reducible refine J.nil ?_ | ((with_reducible apply J.skipV); rfl; rfl; rfl) | ((with_reducible apply J.skipU); rfl; rfl) | with_reducible refine CW.seq ?_ | with_reducible refine CW.block ?_ | ((with_reducible refine CW.reg ?_ ?_); rfl) | ((with_reducible refine CW.regQN ?_ ?_ ?_ ?_); rfl; kernel_rfl; rfl) | ((with_reducible refine CW.regS 1 ?_ ?_ ?_); kernel_rfl; rfl; simp only [List.length_cons, List.length_nil, Nat.reduceAdd, Nat.reduceSub, List.take_succ_cons, List.take_zero, List.drop_succ_cons, List.drop_zero]) | with_reducible refine CW.skip ?_ | with_reducible refine CW.ret ?_ | with_reducible refine CW.exit ?_ | refine CW.condT rfl ?_ | refine CW.condF rfl ?_ | (refine CW.condD rfl (fun _ => ?_) (fun _ => ?_) <;> (try (exfalso; omega))) | (refine CW.cond rfl (fun _ => ?_) (fun _ => ?_) <;> (try (exfalso; simp only [decide_eq_true_eq, decide_eq_false_iff_not, Bool.and_eq_true, Bool.or_eq_true] at *; omega))) | with_reducible refine thenQ_n ?_ | with_reducible refine blockQ_n ?_ | ((with_reducible refine blockQ_e ?_ ?_); rfl) | ((with_reducible refine blockQ_x ?_ ?_); rfl) | with_reducible refine blockQ_r ?_ | with_reducible refine thenQ_x ?_ | with_reducible refine thenQ_r ?_ | ((fail_if_success ((with_reducible apply J.step); rfl)); (fail_if_success ((with_reducible apply J.skipU); rfl)); refine J.splitG rfl rfl (fun _ => ?_) (fun _ => ?_) <;> (try (exfalso; omega))) | ((fail_if_success ((with_reducible apply J.step); rfl)); (fail_if_success ((with_reducible apply J.skipU); rfl)); refine J.splitB rfl rfl (fun _ => ?_) (fun _ => ?_))))
        refine ⟨(i + 1, a2), ?_, by first | omega | (simp only; omega), by (repeat' (first | exact trivial | rfl | refine And.intro ?_ ?_ | exact int_congr (by omega) | exact ints_congr (by first | assumption | exact Eq.symm (by assumption)) | exact int_congr (by assumption) | exact bool_congr (by first | assumption | exact Eq.symm (by assumption)) | exact map_congr' (by first | assumption | exact Eq.symm (by assumption))))⟩
        dsimp only
        rw [← hde]
        exact ⟨by omega, by omega⟩
    · obtain rfl : i = p.length := by omega
      rw [List.drop_length] at ha
      simp only [farG, Nat.add_zero] at ha
      rw [hdg] at ha
      subst ha
      cases o with
      | none =>
        simp only [bestS] at hs
        rw [show bsV none = .nil from rfl, show bsN (-1) none = -1 from rfl]
        (repeat' (first | ((with_reducible apply J.step); rfl; exact FM.st) | ((with_reducible apply J.eff); rfl; exact FM.ef) | ((with_reducible apply J.eqNil); rfl; rfl; rfl; rfl; intro bnil hbnil) | (refine J.takeRow rfl rfl AV.noConfusion rfl (by first | assumption | (simp only [List.length_map]; omega)) ?_) | with_reducible refine J.nil ?_ | ((with_reducible apply J.skipV); rfl; rfl; rfl) | ((with_reducible apply J.skipU); rfl; rfl) | with_reducible refine CW.seq ?_ | with_reducible refine CW.block ?_ | ((with_reducible refine CW.reg ?_ ?_); rfl) | ((with_reducible refine CW.regQN ?_ ?_ ?_ ?_); rfl; kernel_rfl; rfl) | ((with_reducible refine CW.regS 1 ?_ ?_ ?_); kernel_rfl; rfl; simp only [List.length_cons, List.length_nil, Nat.reduceAdd, Nat.reduceSub, List.take_succ_cons, List.take_zero, List.drop_succ_cons, List.drop_zero]) | with_reducible refine CW.skip ?_ | with_reducible refine CW.ret ?_ | with_reducible refine CW.exit ?_ | refine CW.condT rfl ?_ | refine CW.condF rfl ?_ | (refine CW.condD rfl (fun _ => ?_) (fun _ => ?_) <;> (try (exfalso; omega))) | (refine CW.cond rfl (fun _ => ?_) (fun _ => ?_) <;> (try (exfalso; simp only [decide_eq_true_eq, decide_eq_false_iff_not, Bool.and_eq_true, Bool.or_eq_true] at *; omega))) | with_reducible refine thenQ_n ?_ | with_reducible refine blockQ_n ?_ | ((with_reducible refine blockQ_e ?_ ?_); rfl) | ((with_reducible refine blockQ_x ?_ ?_); rfl) | with_reducible refine blockQ_r ?_ | with_reducible refine thenQ_x ?_ | with_reducible refine thenQ_r ?_ | ((fail_if_success ((with_reducible apply J.step); rfl)); (fail_if_success ((with_reducible apply J.skipU); rfl)); refine J.splitG rfl rfl (fun _ => ?_) (fun _ => ?_) <;> (try (exfalso; omega))) | ((fail_if_success ((with_reducible apply J.step); rfl)); (fail_if_success ((with_reducible apply J.skipU); rfl)); refine J.splitB rfl rfl (fun _ => ?_) (fun _ => ?_))))
        all_goals first | (exfalso; omega) | skip
        refine ⟨k+1, ?_, by first | omega | (simp only; omega), by (repeat' (first | exact trivial | rfl | refine And.intro ?_ ?_ | exact int_congr (by omega) | exact ints_congr (by first | assumption | exact Eq.symm (by assumption)) | exact int_congr (by assumption) | exact bool_congr (by first | assumption | exact Eq.symm (by assumption)) | exact map_congr' (by first | assumption | exact Eq.symm (by assumption)) | (rw [hs]; rfl)))⟩
        omega
      | some bm =>
        obtain ⟨b0, m0⟩ := bm
        simp only [bestS] at hs
        rw [show bsV (some (b0, m0)) = .sl false 1 ((b0).map .int) from rfl, show bsN (-1) (some (b0, m0)) = m0 from rfl]
        by_cases hc : dsum n V p < m0
        · rw [if_pos hc] at hs
          (repeat' (first | ((with_reducible apply J.step); rfl; exact FM.st) | ((with_reducible apply J.eff); rfl; exact FM.ef) | ((with_reducible apply J.eqNil); rfl; rfl; rfl; rfl; intro bnil hbnil) | (refine J.takeRow rfl rfl AV.noConfusion rfl (by first | assumption | (simp only [List.length_map]; omega)) ?_) | with_reducible refine J.nil ?_ | ((with_reducible apply J.skipV); rfl; rfl; rfl) | ((with_reducible apply J.skipU); rfl; rfl) | with_reducible refine CW.seq ?_ | with_reducible refine CW.block ?_ | ((with_reducible refine CW.reg ?_ ?_); rfl) | ((with_reducible refine CW.regQN ?_ ?_ ?_ ?_); rfl; kernel_rfl; rfl) | ((with_reducible refine CW.regS 1 ?_ ?_ ?_); kernel_rfl; rfl; simp only [List.length_cons, List.length_nil, Nat.reduceAdd, Nat.reduceSub, List.take_succ_cons, List.take_zero, List.drop_succ_cons, List.drop_zero]) | with_reducible refine CW.skip ?_ | with_reducible refine CW.ret ?_ | with_reducible refine CW.exit ?_ | refine CW.condT rfl ?_ | refine CW.condF rfl ?_ | (refine CW.condD rfl (fun _ => ?_) (fun _ => ?_) <;> (try (exfalso; omega))) | (refine CW.cond rfl (fun _ => ?_) (fun _ => ?_) <;> (try (exfalso; simp only [decide_eq_true_eq, decide_eq_false_iff_not, Bool.and_eq_true, Bool.or_eq_true] at *; omega))) | with_reducible refine thenQ_n ?_ | with_reducible refine blockQ_n ?_ | ((with_reducible refine blockQ_e ?_ ?_); rfl) | ((with_reducible refine blockQ_x ?_ ?_); rfl) | with_reducible refine blockQ_r ?_ | with_reducible refine thenQ_x ?_ | with_reducible refine thenQ_r ?_ | ((fail_if_success ((with_reducible apply J.step); rfl)); (fail_if_success ((with_reducible apply J.skipU); rfl)); refine J.splitG rfl rfl (fun _ => ?_) (fun _ => ?_) <;> (try (exfalso; omega))) | ((fail_if_success ((with_reducible apply J.step); rfl)); (fail_if_success ((with_reducible apply J.skipU); rfl)); refine J.splitB rfl rfl (fun _ => ?_) (fun _ => ?_))))
          all_goals first | (exfalso; omega) | skip
          refine ⟨k+1, ?_, by first | omega | (simp only; omega), by (repeat' (first | exact trivial | rfl | refine And.intro ?_ ?_ | exact int_congr (by omega) | exact ints_congr (by first | assumption | exact Eq.symm (by assumption)) | exact int_congr (by assumption) | exact bool_congr (by first | assumption | exact Eq.symm (by assumption)) | exact map_congr' (by first | assumption | exact Eq.symm (by assumption)) | (rw [hs]; rfl)))⟩
          omega
        · rw [if_neg hc] at hs
          (repeat' (first | ((with_reducible apply J.step); rfl; exact FM.st) | ((with_reducible apply J.eff); rfl; exact FM.ef) | ((with_reducible apply J.eqNil); rfl; rfl; rfl; rfl; intro bnil hbnil) | (refine J.takeRow rfl rfl AV.noConfusion rfl (by first | assumption | (simp only [List.length_map]; omega)) ?_) | with_reducible refine J.nil ?_ | ((with_reducible apply J.skipV); rfl; rfl; rfl) | ((with_reducible apply J.skipU); rfl; rfl) | with_reducible refine CW.seq ?_ | with_reducible refine CW.block ?_ | ((with_reducible refine CW.reg ?_ ?_); rfl) | ((with_reducible refine CW.regQN ?_ ?_ ?_ ?_); rfl; kernel_rfl; rfl) | ((with_reducible refine CW.regS 1 ?_ ?_ ?_); kernel_rfl; rfl; simp only [List.length_cons, List.length_nil, Nat.reduceAdd, Nat.reduceSub, List.take_succ_cons, List.take_zero, List.drop_succ_cons, List.drop_zero]) | with_reducible refine CW.skip ?_ | with_reducible refine CW.ret ?_ | with_reducible refine CW.exit ?_ | refine CW.condT rfl ?_ | refine CW.condF rfl ?_ | (refine CW.condD rfl (fun _ => ?_) (fun _ => ?_) <;> (try (exfalso; omega))) | (refine CW.cond rfl (fun _ => ?_) (fun _ => ?_) <;> (try (exfalso; simp only [decide_eq_true_eq, decide_eq_false_iff_not, Bool.and_eq_true, Bool.or_eq_true] at *; omega))) | with_reducible refine thenQ_n ?_ | with_reducible refine blockQ_n ?_ | ((with_reducible refine blockQ_e ?_ ?_); rfl) | ((with_reducible refine blockQ_x ?_ ?_); rfl) | with_reducible refine blockQ_r ?_ | with_reducible refine thenQ_x ?_ | with_reducible refine thenQ_r ?_ | ((fail_if_success ((with_reducible apply J.step); rfl)); (fail_if_success ((with_reducible apply J.skipU); rfl)); refine J.splitG rfl rfl (fun _ => ?_) (fun _ => ?_) <;> (try (exfalso; omega))) | ((fail_if_success ((with_reducible apply J.step); rfl)); (fail_if_success ((with_reducible apply J.skipU); rfl)); refine J.splitB rfl rfl (fun _ => ?_) (fun _ => ?_))))
          all_goals first | (exfalso; omega) | skip
          refine ⟨k+1, ?_, by first | omega | (simp only; omega), by (repeat' (first | exact trivial | rfl | refine And.intro ?_ ?_ | exact int_congr (by omega) | exact ints_congr (by first | assumption | exact Eq.symm (by assumption)) | exact int_congr (by assumption) | exact bool_congr (by first | assumption | exact Eq.symm (by assumption)) | exact map_congr' (by first | assumption | exact Eq.symm (by assumption)) | (rw [hs]; rfl)))⟩
          omega
  · obtain rfl : k = R.length := by omega
    rw [List.take_length, hb, show bsV (some (b, m)) = .sl false 1 ((b).map .int) from rfl, show bsN (-1) (some (b, m)) = m from rfl]
    (repeat' (first | ((with_reducible apply J.step); rfl; exact FM.st) | ((with_reducible apply J.eff); rfl; exact FM.ef) | ((with_reducible apply J.eqNil); rfl; rfl; rfl; rfl; intro bnil hbnil) | (refine J.takeRow rfl rfl AV.noConfusion rfl (by first | assumption | (simp only [List.length_map]; omega)) ?_) | with_reducible refine J.nil ?_ | ((with_reducible apply J.skipV); rfl; rfl; rfl) | ((with_reducible apply J.skipU); rfl; rfl) | with_reducible refine CW.seq ?_ | with_reducible refine CW.block ?_ | ((with_reducible refine CW.reg ?_ ?_); rfl) | ((with_reducible refine CW.regQN ?_ ?_ ?_ ?_); rfl; kernel_rfl; rfl) | ((with_reducible refine CW.regS 1 ?_ ?_ ?_); kernel_rfl; rfl; simp only [List.length_cons, List.length_nil, Nat.reduceAdd, Nat.reduceSub, List.take_succ_cons, List.take_zero, List.drop_succ_cons, List.drop_zero]) | with_reducible refine CW.skip ?_ | with_reducible refine CW.ret ?_ | with_reducible refine CW.exit ?_ | refine CW.condT rfl ?_ | refine CW.condF rfl ?_ | (refine CW.condD rfl (fun _ => ?_) (fun _ => ?_) <;> (try (exfalso; omega))) | (refine CW.cond rfl (fun _ => ?_) (fun _ => ?_) <;> (try (exfalso; simp only [decide_eq_true_eq, decide_eq_false_iff_not, Bool.and_eq_true, Bool.or_eq_true] at *; omega))) | with_reducible refine thenQ_n ?_ | with_reducible refine blockQ_n ?_ | ((with_reducible refine blockQ_e ?_ ?_); rfl) | ((with_reducible refine blockQ_x ?_ ?_); rfl) | with_reducible refine blockQ_r ?_ | with_reducible refine thenQ_x ?_ | with_reducible refine thenQ_r ?_ | ((fail_if_success ((with_reducible apply J.step); rfl)); (fail_if_success ((with_reducible apply J.skipU); rfl)); refine J.splitG rfl rfl (fun _ => ?_) (fun _ => ?_) <;> (try (exfalso; omega))) | ((fail_if_success ((with_reducible apply J.step); rfl)); (fail_if_success ((with_reducible apply J.skipU); rfl)); refine J.splitB rfl rfl (fun _ => ?_) (fun _ => ?_))))
    exact .mk rfl rfl rfl
end Go.Proofs.Ytohgcgedbhlnfaa
