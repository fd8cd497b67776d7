/- The reference's rounds. -/
import Derived.Test.YtjhkeilampkihaaDn
namespace FM
theorem J.takeB {q : Bool} {S : Sys} {N : Nat} {σ : St} {ops : Array Go.Oper} {l : List Go.Oper} {K : St → Prop} {t s i : Nat} {y : AV} {xs : List AV} (ht : get σ t = .rref s i y) (hs : get σ s = .av (.pt true xs)) (hy : y ≠ .dead) (hst : Nat.beq s t = false) (hi : i < xs.length)
    (h : J q S N ops l K ((σ.upd false s (.av (.pt true (xs.set i .dead)))).put t (.av y))) : J q S N ops l K σ := by
  unfold J at *
  cases q with
  | true => exact fun hd w0 L0 Q a w hQ ⟨L, hR⟩ => h hd w0 L0 Q a w hQ ⟨_, hR.takeBox hs ht hy (of_not_beq hst) hi⟩
  | false => exact fun hd w0 L0 Q a w hQ ⟨L, hR⟩ => h hd w0 L0 Q a w hQ ⟨_, hR.takeBox hs ht hy (of_not_beq hst) hi⟩
end FM
namespace Go.Proofs.Ytjhkeilampkihaa
open Go FM
set_option maxRecDepth 10000
set_option maxHeartbeats 1600000
set_option linter.all false
abbrev lf (n : Nat) (o : Nat → Bool) : List Int := fl n (notO o)
theorem lf_any {n : Nat} {o : Nat → Bool} {x : Int} (hx : 0 ≤ x ∧ x < n) : ((lf n o).any fun z => x == z) = !(o x.toNat) := by
  cases h : o x.toNat with
  | true =>
    rw [Bool.not_true, List.any_eq_false]
    intro z hz e
    obtain ⟨k, rfl, hk, ho⟩ := fl_mem.1 hz
    have := eq_of_beq e
    subst this
    rw [Int.toNat_natCast] at h
    unfold notO at ho
    rw [h] at ho; cases ho
  | false =>
    rw [Bool.not_false, List.any_eq_true]
    exact ⟨x, fl_mem.2 ⟨x.toNat, by omega, by omega, by unfold notO; rw [h]; rfl⟩, by simp⟩
theorem first_left {n : Nat} {p : List Int} {o : Nat → Bool} (hp : okO n p) : (p.filter fun x => !(!((lf n o).any fun z => x == z)))[0]? = frs p o := by
  rw [← List.head?_eq_getElem?, List.head?_filter]
  unfold frs
  have : ∀ l : List Int, (∀ x ∈ l, 0 ≤ x ∧ x < (n : Int)) → l.find? (fun x => !(!((lf n o).any fun z => x == z))) = l.find? fun y => !(o y.toNat) := fun l => by
    induction l with
    | nil => intro _; rfl
    | cons a l ih =>
      intro h
      rw [List.find?_cons, List.find?_cons, lf_any (h a (List.mem_cons_self ..)), ih fun x hx => h x (List.mem_cons_of_mem _ hx), Bool.not_not]
  exact this p hp.1
theorem frs_some {n : Nat} {p : List Int} {o : Nat → Bool} (hp : okO n p) {w : Nat} (hw : w < n) (ho : o w = false) : ∃ y : Int, frs p o = some y := by
  have hm : (w : Int) ∈ p := (perm_iota hp).mem_iff.2 (iota_mem'.2 (by omega))
  cases h : frs p o with
  | some y => exact ⟨y, rfl⟩
  | none =>
    unfold frs at h
    have := List.find?_eq_none.1 h _ hm
    rw [Int.toNat_natCast, ho] at this
    exact absurd rfl this
def wF (c : Nat → Nat) (l : List Int) : Int := l.foldl (fun st x => if st < 0 ∨ c x.toNat ≤ c st.toNat then x else st) (-1)
theorem wF_take {c : Nat → Nat} {l : List Int} {j : Nat} (h : j < l.length) : wF c (l.take (j + 1)) = if wF c (l.take j) < 0 ∨ c (l[j]).toNat ≤ c (wF c (l.take j)).toNat then l[j] else wF c (l.take j) := by
  unfold wF; rw [List.take_succ_eq_append_getElem h, List.foldl_append]; rfl
theorem wF_fl {c : Nat → Nat} {o : Nat → Bool} : ∀ n, wF c (lf n o) = wI o c n
  | 0 => rfl
  | n + 1 => by
    cases hb : o n with
    | true =>
      have hn : notO o n = false := by unfold notO; rw [hb]; rfl
      show wF c (fl (n + 1) (notO o)) = _
      rw [fl_no hn, wF_fl n]
      unfold wI
      rw [if_neg (fun h => by rw [hb] at h; cases h.1)]
      cases n <;> rfl
    | false =>
      have hn : notO o n = true := by unfold notO; rw [hb]; rfl
      have ih := wF_fl (c := c) (o := o) n
      show wF c (fl (n + 1) (notO o)) = _
      rw [fl_yes hn]
      have e : wF c (lf n o ++ [(n : Int)]) = if wF c (lf n o) < 0 ∨ c n ≤ c (wF c (lf n o)).toNat then (n : Int) else wF c (lf n o) := by unfold wF; rw [List.foldl_append]; rfl
      rw [e, ih]
      have e2 : wI o c (n + 1) = if o n = false ∧ (wI o c n < 0 ∨ c n ≤ c (wI o c n).toNat) then (n : Int) else wI o c n := rfl
      rw [e2]
      by_cases hc : wI o c n < 0 ∨ c n ≤ c (wI o c n).toNat
      · rw [if_pos hc, if_pos ⟨hb, hc⟩]
      · rw [if_neg hc, if_neg (fun h => hc h.2)]
theorem lf_del {n : Nat} {o : Nat → Bool} {w : Nat} : ((lf n o).filter fun x => !(x == (w : Int))) = lf n (setO o w) := by
  unfold lf
  rw [fl_filter]
  refine fl_congr fun i _ => ?_
  unfold notO setO
  by_cases e : i = w
  · subst e; simp
  · have : ((i : Int) == (w : Int)) = false := by rw [beq_eq_false_iff_ne]; omega
    rw [this, if_neg e]; simp
theorem roundsOf_spec (n : Nat) (V : List (List Int)) (h : VOk n V) : FnSpec Sy.P 123 [.int n, .sl false 1 ((V).map rwS)] [.int n, .sl false 1 ((V).map rwS)] (.int (rdR V n (n - 1) fun _ => false)) := by
  have h1 := h.n1; have h6 := h.n6; have hV := h.len
  have hlt0 : (lf n fun _ => false) = iota n := by
    have : (lf n fun _ => false) = fl n fun _ => true := fl_congr fun _ _ => rfl
    rw [this, fl_true]; rfl
  have hll0 : (lf n fun _ => false).length = n := by rw [hlt0, iota_length]
  have hSd := Sides_spec n (by omega)
  rw [← hlt0] at hSd
  have eg1 : ∀ args w, (callFunc 137 args).run Try.prog w = .ok (.enter 137 args) w := enters_of Try.func137 (by kernel_rfl) rfl
  have eg2 : ∀ args w, (callFunc 138 args).run Try.prog w = .ok (.enter 138 args) w := enters_of Try.func138 (by kernel_rfl) rfl
  refine FnSpec.enter (S := Sy) 0 Try.func123 rfl rfl rfl Try.ntmps123 rfl rfl rfl rfl fun v0 => ?_
  (repeat' (first | ((with_reducible apply J.eff); rfl; (exact e_stB rfl rfl rfl rfl rfl rfl)) | ((with_reducible apply J.step); rfl; exact FM.st) | ((with_reducible apply J.eff); rfl; exact FM.ef) | ((with_reducible apply J.callP (hSd)); rfl; rfl; (repeat' (first | exact ArgsOk.nil | apply ArgsOk.cons | exact ArgOk.pl rfl rfl | exact ArgOk.br rfl AV.noConfusion (by first | rfl | exact sh_int | exact sh_rows | exact sh_rowsO))); (first | rfl | exact (fun h => Bool.noConfusion h) | exact (fun _ => noSh_ints) | exact (fun _ => noSh_rows) | exact (fun _ => NoSh.int) | exact (fun _ => NoSh.bool) | exact (fun _ => NoSh.nil) | exact (fun _ => noSh_tup2 (by first | exact noSh_ints | exact noSh_rows | exact NoSh.nil | exact NoSh.int | exact NoSh.bool) (by first | exact noSh_ints | exact NoSh.int | exact NoSh.bool | exact noSh_rows | exact NoSh.nil)) | exact (fun _ => noSh_tup3 (by first | exact noSh_ints | exact noSh_rows | exact NoSh.nil | exact NoSh.int | exact NoSh.bool) (by first | exact noSh_ints | exact NoSh.int | exact NoSh.bool | exact noSh_rows | exact NoSh.nil) (by first | exact noSh_ints | exact NoSh.int | exact NoSh.bool | exact noSh_rows | exact NoSh.nil)))) | ((with_reducible apply J.callPQ (hSd)); rfl; rfl; (repeat' (first | exact ArgsOk.nil | apply ArgsOk.cons | exact ArgOk.pl rfl rfl | exact ArgOk.br rfl AV.noConfusion (by first | rfl | exact sh_int | exact sh_rows | exact sh_rowsO))); rfl) | ((with_reducible apply J.eqNil); rfl; rfl; rfl; rfl; intro bnil hbnil) | (refine J.takeRow rfl rfl AV.noConfusion rfl (by first | assumption | (simp only [List.length_map]; omega)) ?_) | with_reducible refine J.nil ?_ | ((with_reducible apply J.skipV); rfl; rfl; rfl) | ((with_reducible apply J.skipU); rfl; rfl) | with_reducible refine CW.seq ?_ | with_reducible refine CW.block ?_ | ((with_reducible refine CW.reg ?_ ?_); rfl) | ((with_reducible refine CW.regQN ?_ ?_ ?_ ?_); rfl; kernel_rfl; rfl) | ((with_reducible refine CW.regS 1 ?_ ?_ ?_); kernel_rfl; rfl; simp only [List.length_cons, List.length_nil, Nat.reduceAdd, Nat.reduceSub, List.take_succ_cons, List.take_zero, List.drop_succ_cons, List.drop_zero]) | with_reducible refine CW.skip ?_ | with_reducible refine CW.ret ?_ | with_reducible refine CW.exit ?_ | refine CW.condT rfl ?_ | refine CW.condF rfl ?_ | (refine CW.condD rfl (fun _ => ?_) (fun _ => ?_) <;> (try (exfalso; omega))) | (refine CW.cond rfl (fun _ => ?_) (fun _ => ?_) <;> (try (exfalso; simp only [decide_eq_true_eq, decide_eq_false_iff_not, Bool.and_eq_true, Bool.or_eq_true] at *; omega))) | with_reducible refine thenQ_n ?_ | with_reducible refine blockQ_n ?_ | ((with_reducible refine blockQ_e ?_ ?_); rfl) | ((with_reducible refine blockQ_x ?_ ?_); rfl) | with_reducible refine blockQ_r ?_ | with_reducible refine thenQ_x ?_ | with_reducible refine thenQ_r ?_ | ((fail_if_success ((with_reducible apply J.step); rfl)); (fail_if_success ((with_reducible apply J.skipU); rfl)); refine J.splitG rfl rfl (fun _ => ?_) (fun _ => ?_) <;> (try (exfalso; omega))) | ((fail_if_success ((with_reducible apply J.step); rfl)); (fail_if_success ((with_reducible apply J.skipU); rfl)); refine J.splitB rfl rfl (fun _ => ?_) (fun _ => ?_))))
  refine CW.loop (fun s : Nat × (Nat → Bool) => [(1, .av (.sl false 1 ((V).map rwS))), (5, .av (.pt true [rwO (lf n s.2)]))]) (fun s => 1 ≤ s.1 ∧ s.1 ≤ 6 ∧ (lf n s.2).length = s.1 ∧ rdR V n (s.1 - 1) s.2 = rdR V n (n - 1) (fun _ => false)) (fun s => s.1) ((n, fun _ => false)) ?_ (by (repeat' (first | exact trivial | rfl | refine And.intro ?_ ?_ | exact int_congr (by omega) | exact ints_congr (by first | assumption | exact Eq.symm (by assumption)) | exact int_congr (by assumption) | exact bool_congr (by first | assumption | exact Eq.symm (by assumption)) | exact map_congr' (by first | assumption | exact Eq.symm (by assumption))))) ?_
  · exact ⟨h1, h6, hll0, rfl⟩
  clear hll0 hlt0 hSd
  intro ⟨m, o⟩ ⟨hm, hm6, hl, hr⟩
  dsimp only at hm hm6 hl hr ⊢
  obtain ⟨w, hw, how⟩ := left_ex (n := n) (o := o) (by show 1 ≤ (lf n o).length; omega)
  have hne : lf n o ≠ [] := fun e => by rw [e] at hl; simp at hl; omega
  have hmem : ∀ x ∈ lf n o, ∃ k : Nat, x = k ∧ k < n ∧ o k = false := fun x hx => by
    obtain ⟨k, e1, e2, e3⟩ := fl_mem.1 hx
    exact ⟨k, e1, e2, by unfold notO at e3; simpa using e3⟩
  have hmemr : ∀ k : Nat, k < n → o k = false → (k : Int) ∈ lf n o := fun k hk ho => fl_mem.2 ⟨k, rfl, hk, by unfold notO; rw [ho]; rfl⟩
  have hwf := wF_fl (c := fsC V o) (o := o) n
  obtain ⟨w1, w2, w3⟩ := wI_range (o := o) (c := fsC V o) n
  have hws := wI_some (c := fsC V o) hw how
  have hol := w3 hws
  have hdel := fun w => lf_del (n := n) (o := o) (w := w)
  have hfst := fun p hp => first_left (n := n) (p := p) (o := o) hp
  have hfs := fun (i : Nat) hi ho => fl_setO (n := n) (o := o) (i := i) hi ho
  obtain ⟨l, hle⟩ : ∃ l : Nat, wI o (fsC V o) n = l := ⟨(wI o (fsC V o) n).toNat, by omega⟩
  by_cases hm1 : m = 1
  · have hrr : rdR V n (m - 1) o = l := by subst hm1; show wI o (fsC V o) n = l; exact hle
    have hlm := hmemr l (by omega) (by rw [hle, Int.toNat_natCast] at hol; exact hol)
    have hg0 : (lf n o)[0]? = some (l : Int) := by
      cases e : lf n o with
      | nil => exact absurd e hne
      | cons x r =>
        rw [e] at hl hlm
        have : r = [] := List.eq_nil_of_length_eq_zero (by simp at hl; omega)
        subst this
        rw [List.mem_singleton.1 hlm]; rfl
    rw [← hr, hrr]
    generalize lf n o = left at *
    (repeat' (first | ((with_reducible apply J.step); rfl; (exact s_ldBox rfl rfl rfl AV.noConfusion rfl rfl)) | ((with_reducible apply J.step); rfl; exact FM.st) | ((with_reducible apply J.eff); rfl; exact FM.ef) | ((with_reducible apply J.eqNil); rfl; rfl; rfl; rfl; intro bnil hbnil) | (refine J.takeRow rfl rfl AV.noConfusion rfl (by first | assumption | (simp only [List.length_map]; omega)) ?_) | with_reducible refine J.nil ?_ | ((with_reducible apply J.skipV); rfl; rfl; rfl) | ((with_reducible apply J.skipU); rfl; rfl) | with_reducible refine CW.seq ?_ | with_reducible refine CW.block ?_ | ((with_reducible refine CW.reg ?_ ?_); rfl) | ((with_reducible refine CW.regQN ?_ ?_ ?_ ?_); rfl; kernel_rfl; rfl) | ((with_reducible refine CW.regS 1 ?_ ?_ ?_); kernel_rfl; rfl; simp only [List.length_cons, List.length_nil, Nat.reduceAdd, Nat.reduceSub, List.take_succ_cons, List.take_zero, List.drop_succ_cons, List.drop_zero]) | with_reducible refine CW.skip ?_ | with_reducible refine CW.ret ?_ | with_reducible refine CW.exit ?_ | refine CW.condT rfl ?_ | refine CW.condF rfl ?_ | (refine CW.condD rfl (fun _ => ?_) (fun _ => ?_) <;> (try (exfalso; omega))) | (refine CW.cond rfl (fun _ => ?_) (fun _ => ?_) <;> (try (exfalso; simp only [decide_eq_true_eq, decide_eq_false_iff_not, Bool.and_eq_true, Bool.or_eq_true] at *; omega))) | with_reducible refine thenQ_n ?_ | with_reducible refine blockQ_n ?_ | ((with_reducible refine blockQ_e ?_ ?_); rfl) | ((with_reducible refine blockQ_x ?_ ?_); rfl) | with_reducible refine blockQ_r ?_ | with_reducible refine thenQ_x ?_ | with_reducible refine thenQ_r ?_ | ((fail_if_success ((with_reducible apply J.step); rfl)); (fail_if_success ((with_reducible apply J.skipU); rfl)); refine J.splitG rfl rfl (fun _ => ?_) (fun _ => ?_) <;> (try (exfalso; omega))) | ((fail_if_success ((with_reducible apply J.step); rfl)); (fail_if_success ((with_reducible apply J.skipU); rfl)); refine J.splitB rfl rfl (fun _ => ?_) (fun _ => ?_))))
    all_goals first | (exfalso; omega) | exact .mk rfl rfl rfl
  · have hgt : 1 < (lf n o).length := by omega
    have hfr : ∀ p, okO n p → ∃ y : Int, frs p o = some y := fun p hp => frs_some hp hw how
    have hcb : ∀ x, fsC V o x ≤ 30 := fun x => by have := @fsC_le V o x; omega
    generalize hlf : lf n o = left at *
    have hleft : left.length ≤ 6 := by omega
    (repeat' (first | ((with_reducible apply J.step); rfl; (exact s_ldBox rfl rfl rfl AV.noConfusion rfl rfl)) | ((with_reducible apply J.step); rfl; exact FM.st) | ((with_reducible apply J.eff); rfl; exact FM.ef) | ((with_reducible apply J.eqNil); rfl; rfl; rfl; rfl; intro bnil hbnil) | (refine J.takeRow rfl rfl AV.noConfusion rfl (by first | assumption | (simp only [List.length_map]; omega)) ?_) | with_reducible refine J.nil ?_ | ((with_reducible apply J.skipV); rfl; rfl; rfl) | ((with_reducible apply J.skipU); rfl; rfl) | with_reducible refine CW.seq ?_ | with_reducible refine CW.block ?_ | ((with_reducible refine CW.reg ?_ ?_); rfl) | ((with_reducible refine CW.regQN ?_ ?_ ?_ ?_); rfl; kernel_rfl; rfl) | ((with_reducible refine CW.regS 1 ?_ ?_ ?_); kernel_rfl; rfl; simp only [List.length_cons, List.length_nil, Nat.reduceAdd, Nat.reduceSub, List.take_succ_cons, List.take_zero, List.drop_succ_cons, List.drop_zero]) | with_reducible refine CW.skip ?_ | with_reducible refine CW.ret ?_ | with_reducible refine CW.exit ?_ | refine CW.condT rfl ?_ | refine CW.condF rfl ?_ | (refine CW.condD rfl (fun _ => ?_) (fun _ => ?_) <;> (try (exfalso; omega))) | (refine CW.cond rfl (fun _ => ?_) (fun _ => ?_) <;> (try (exfalso; simp only [decide_eq_true_eq, decide_eq_false_iff_not, Bool.and_eq_true, Bool.or_eq_true] at *; omega))) | with_reducible refine thenQ_n ?_ | with_reducible refine blockQ_n ?_ | ((with_reducible refine blockQ_e ?_ ?_); rfl) | ((with_reducible refine blockQ_x ?_ ?_); rfl) | with_reducible refine blockQ_r ?_ | with_reducible refine thenQ_x ?_ | with_reducible refine thenQ_r ?_ | ((fail_if_success ((with_reducible apply J.step); rfl)); (fail_if_success ((with_reducible apply J.skipU); rfl)); refine J.splitG rfl rfl (fun _ => ?_) (fun _ => ?_) <;> (try (exfalso; omega))) | ((fail_if_success ((with_reducible apply J.step); rfl)); (fail_if_success ((with_reducible apply J.skipU); rfl)); refine J.splitB rfl rfl (fun _ => ?_) (fun _ => ?_))))
    all_goals first | (exfalso; omega) | skip
    refine CW.loop (fun j : Nat => [(19, .rref 5 0 (rwO left)), (1, .av (.sl false 1 ((V).map rwS))), (5, .av (.pt true [rwO left])), (6, .av (.pt true [.int (wF (fsC V o) (left.take j))])), (7, .av (.int ((if wF (fsC V o) (left.take j) < 0 then 0 else ((fsC V o (wF (fsC V o) (left.take j)).toNat : Nat) : Int))))), (20, .av (.int (left.length))), (21, .av (.int (j)))]) (fun j => j ≤ left.length) (fun j => left.length - j) (0) ?_ (by (repeat' (first | exact trivial | rfl | refine And.intro ?_ ?_ | exact int_congr (by omega) | exact ints_congr (by first | assumption | exact Eq.symm (by assumption)) | exact int_congr (by assumption) | exact bool_congr (by first | assumption | exact Eq.symm (by assumption)) | exact map_congr' (by first | assumption | exact Eq.symm (by assumption))))) ?_
    · exact Nat.zero_le _
    intro j hj
    by_cases hjl : j < left.length
    · have hx : left[j]? = some left[j] := List.getElem?_eq_getElem hjl
      obtain ⟨x, hxe, hxn, hxo⟩ := hmem _ (List.getElem_mem hjl)
      have hwt := wF_take (c := fsC V o) hjl
      rw [hxe, Int.toNat_natCast] at hwt
      rw [hxe] at hx
      generalize hst : wF (fsC V o) (left.take j) = st at *
      (repeat' (first | ((with_reducible apply J.step); rfl; exact FM.st) | ((with_reducible apply J.eff); rfl; exact FM.ef) | ((with_reducible apply J.eqNil); rfl; rfl; rfl; rfl; intro bnil hbnil) | (refine J.takeRow rfl rfl AV.noConfusion rfl (by first | assumption | (simp only [List.length_map]; omega)) ?_) | with_reducible refine J.nil ?_ | ((with_reducible apply J.skipV); rfl; rfl; rfl) | ((with_reducible apply J.skipU); rfl; rfl) | with_reducible refine CW.seq ?_ | with_reducible refine CW.block ?_ | ((with_reducible refine CW.reg ?_ ?_); rfl) | ((with_reducible refine CW.regQN ?_ ?_ ?_ ?_); rfl; kernel_rfl; rfl) | ((with_reducible refine CW.regS 1 ?_ ?_ ?_); kernel_rfl; rfl; simp only [List.length_cons, List.length_nil, Nat.reduceAdd, Nat.reduceSub, List.take_succ_cons, List.take_zero, List.drop_succ_cons, List.drop_zero]) | with_reducible refine CW.skip ?_ | with_reducible refine CW.ret ?_ | with_reducible refine CW.exit ?_ | refine CW.condT rfl ?_ | refine CW.condF rfl ?_ | (refine CW.condD rfl (fun _ => ?_) (fun _ => ?_) <;> (try (exfalso; omega))) | (refine CW.cond rfl (fun _ => ?_) (fun _ => ?_) <;> (try (exfalso; simp only [decide_eq_true_eq, decide_eq_false_iff_not, Bool.and_eq_true, Bool.or_eq_true] at *; omega))) | with_reducible refine thenQ_n ?_ | with_reducible refine blockQ_n ?_ | ((with_reducible refine blockQ_e ?_ ?_); rfl) | ((with_reducible refine blockQ_x ?_ ?_); rfl) | with_reducible refine blockQ_r ?_ | with_reducible refine thenQ_x ?_ | with_reducible refine thenQ_r ?_ | ((fail_if_success ((with_reducible apply J.step); rfl)); (fail_if_success ((with_reducible apply J.skipU); rfl)); refine J.splitG rfl rfl (fun _ => ?_) (fun _ => ?_) <;> (try (exfalso; omega))) | ((fail_if_success ((with_reducible apply J.step); rfl)); (fail_if_success ((with_reducible apply J.skipU); rfl)); refine J.splitB rfl rfl (fun _ => ?_) (fun _ => ?_))))
      refine CW.loop (fun k : Nat => [(19, .rref 5 0 (rwO left)), (1, .av (.sl false 1 ((V).map rwS))), (5, .av (.pt true [rwO left])), (6, .av (.pt true [.int st])), (7, .av (.int ((if st < 0 then 0 else ((fsC V o st.toNat : Nat) : Int))))), (9, .av (.int (x))), (10, .av (.int (((fsC (V.take k) o x : Nat) : Int)))), (20, .av (.int (left.length))), (21, .av (.int (j))), (25, .av (.sl false 1 ((V).map rwS))), (26, .av (.int (V.length))), (27, .av (.int (k)))]) (fun k => k ≤ V.length) (fun k => V.length - k) (0) ?_ (by (repeat' (first | exact trivial | rfl | refine And.intro ?_ ?_ | exact int_congr (by omega) | exact ints_congr (by first | assumption | exact Eq.symm (by assumption)) | exact int_congr (by assumption) | exact bool_congr (by first | assumption | exact Eq.symm (by assumption)) | exact map_congr' (by first | assumption | exact Eq.symm (by assumption))))) ?_
      · exact Nat.zero_le _
      intro k hk
      by_cases hkl : k < V.length
      · have hv : V[k]? = some V[k] := List.getElem?_eq_getElem hkl
        have hok := h.ok _ (List.getElem_mem hkl)
        have hft := fsC_take (o := o) hkl x
        have hcb2 : fsC (V.take k) o x ≤ 30 := by have := @fsC_le (V.take k) o x; rw [List.length_take] at this; omega
        generalize V[k] = p at *
        have hpl : p.length = n := by have := hok.2.2; omega
        have hcl := clone_spec p (by omega)
        obtain ⟨y, hy⟩ := hfr p hok
        have hq0 := hfst p hok
        rw [hy] at hq0 hft
        have hpne : p ≠ [] := fun e => by subst e; simp at hpl; omega
        generalize fsC (V.take k) o x = cx at *
        by_cases hyx : y = (x : Int)
        · rw [if_pos (by rw [hyx])] at hft
          (repeat' (first | (refine delJ (p := fun y => !(left.any fun z => y == z)) rfl rfl rfl hpne (by omega) rfl rfl eg1 (fun w0 L0 a w L hR blk hb => pred1 hR rfl hne (by omega) (by decide) hb _) ?_) | ((with_reducible apply J.step); rfl; (exact s_mkf (caps := [5]) rfl rfl)) | ((with_reducible apply J.step); rfl; exact FM.st) | ((with_reducible apply J.eff); rfl; exact FM.ef) | ((with_reducible apply J.callP (hcl)); rfl; rfl; (repeat' (first | exact ArgsOk.nil | apply ArgsOk.cons | exact ArgOk.pl rfl rfl | exact ArgOk.br rfl AV.noConfusion (by first | rfl | exact sh_int | exact sh_rows | exact sh_rowsO))); (first | rfl | exact (fun h => Bool.noConfusion h) | exact (fun _ => noSh_ints) | exact (fun _ => noSh_rows) | exact (fun _ => NoSh.int) | exact (fun _ => NoSh.bool) | exact (fun _ => NoSh.nil) | exact (fun _ => noSh_tup2 (by first | exact noSh_ints | exact noSh_rows | exact NoSh.nil | exact NoSh.int | exact NoSh.bool) (by first | exact noSh_ints | exact NoSh.int | exact NoSh.bool | exact noSh_rows | exact NoSh.nil)) | exact (fun _ => noSh_tup3 (by first | exact noSh_ints | exact noSh_rows | exact NoSh.nil | exact NoSh.int | exact NoSh.bool) (by first | exact noSh_ints | exact NoSh.int | exact NoSh.bool | exact noSh_rows | exact NoSh.nil) (by first | exact noSh_ints | exact NoSh.int | exact NoSh.bool | exact noSh_rows | exact NoSh.nil)))) | ((with_reducible apply J.callPQ (hcl)); rfl; rfl; (repeat' (first | exact ArgsOk.nil | apply ArgsOk.cons | exact ArgOk.pl rfl rfl | exact ArgOk.br rfl AV.noConfusion (by first | rfl | exact sh_int | exact sh_rows | exact sh_rowsO))); rfl) | ((with_reducible apply J.eqNil); rfl; rfl; rfl; rfl; intro bnil hbnil) | (refine J.takeRow rfl rfl AV.noConfusion rfl (by first | assumption | (simp only [List.length_map]; omega)) ?_) | with_reducible refine J.nil ?_ | ((with_reducible apply J.skipV); rfl; rfl; rfl) | ((with_reducible apply J.skipU); rfl; rfl) | with_reducible refine CW.seq ?_ | with_reducible refine CW.block ?_ | ((with_reducible refine CW.reg ?_ ?_); rfl) | ((with_reducible refine CW.regQN ?_ ?_ ?_ ?_); rfl; kernel_rfl; rfl) | ((with_reducible refine CW.regS 1 ?_ ?_ ?_); kernel_rfl; rfl; simp only [List.length_cons, List.length_nil, Nat.reduceAdd, Nat.reduceSub, List.take_succ_cons, List.take_zero, List.drop_succ_cons, List.drop_zero]) | with_reducible refine CW.skip ?_ | with_reducible refine CW.ret ?_ | with_reducible refine CW.exit ?_ | refine CW.condT rfl ?_ | refine CW.condF rfl ?_ | (refine CW.condD rfl (fun _ => ?_) (fun _ => ?_) <;> (try (exfalso; omega))) | (refine CW.cond rfl (fun _ => ?_) (fun _ => ?_) <;> (try (exfalso; simp only [decide_eq_true_eq, decide_eq_false_iff_not, Bool.and_eq_true, Bool.or_eq_true] at *; omega))) | with_reducible refine thenQ_n ?_ | with_reducible refine blockQ_n ?_ | ((with_reducible refine blockQ_e ?_ ?_); rfl) | ((with_reducible refine blockQ_x ?_ ?_); rfl) | with_reducible refine blockQ_r ?_ | with_reducible refine thenQ_x ?_ | with_reducible refine thenQ_r ?_ | ((fail_if_success ((with_reducible apply J.step); rfl)); (fail_if_success ((with_reducible apply J.skipU); rfl)); refine J.splitG rfl rfl (fun _ => ?_) (fun _ => ?_) <;> (try (exfalso; omega))) | ((fail_if_success ((with_reducible apply J.step); rfl)); (fail_if_success ((with_reducible apply J.skipU); rfl)); refine J.splitB rfl rfl (fun _ => ?_) (fun _ => ?_))))
          all_goals first | (exfalso; omega) | skip
          refine ⟨k+1, ?_, by first | omega | (simp only; omega), by (repeat' (first | exact trivial | rfl | refine And.intro ?_ ?_ | exact int_congr (by omega) | exact ints_congr (by first | assumption | exact Eq.symm (by assumption)) | exact int_congr (by assumption) | exact bool_congr (by first | assumption | exact Eq.symm (by assumption)) | exact map_congr' (by first | assumption | exact Eq.symm (by assumption))))⟩
          omega
        · rw [if_neg (fun e => hyx (Option.some.inj e))] at hft
          (repeat' (first | (refine delJ (p := fun y => !(left.any fun z => y == z)) rfl rfl rfl hpne (by omega) rfl rfl eg1 (fun w0 L0 a w L hR blk hb => pred1 hR rfl hne (by omega) (by decide) hb _) ?_) | ((with_reducible apply J.step); rfl; (exact s_mkf (caps := [5]) rfl rfl)) | ((with_reducible apply J.step); rfl; exact FM.st) | ((with_reducible apply J.eff); rfl; exact FM.ef) | ((with_reducible apply J.callP (hcl)); rfl; rfl; (repeat' (first | exact ArgsOk.nil | apply ArgsOk.cons | exact ArgOk.pl rfl rfl | exact ArgOk.br rfl AV.noConfusion (by first | rfl | exact sh_int | exact sh_rows | exact sh_rowsO))); (first | rfl | exact (fun h => Bool.noConfusion h) | exact (fun _ => noSh_ints) | exact (fun _ => noSh_rows) | exact (fun _ => NoSh.int) | exact (fun _ => NoSh.bool) | exact (fun _ => NoSh.nil) | exact (fun _ => noSh_tup2 (by first | exact noSh_ints | exact noSh_rows | exact NoSh.nil | exact NoSh.int | exact NoSh.bool) (by first | exact noSh_ints | exact NoSh.int | exact NoSh.bool | exact noSh_rows | exact NoSh.nil)) | exact (fun _ => noSh_tup3 (by first | exact noSh_ints | exact noSh_rows | exact NoSh.nil | exact NoSh.int | exact NoSh.bool) (by first | exact noSh_ints | exact NoSh.int | exact NoSh.bool | exact noSh_rows | exact NoSh.nil) (by first | exact noSh_ints | exact NoSh.int | exact NoSh.bool | exact noSh_rows | exact NoSh.nil)))) | ((with_reducible apply J.callPQ (hcl)); rfl; rfl; (repeat' (first | exact ArgsOk.nil | apply ArgsOk.cons | exact ArgOk.pl rfl rfl | exact ArgOk.br rfl AV.noConfusion (by first | rfl | exact sh_int | exact sh_rows | exact sh_rowsO))); rfl) | ((with_reducible apply J.eqNil); rfl; rfl; rfl; rfl; intro bnil hbnil) | (refine J.takeRow rfl rfl AV.noConfusion rfl (by first | assumption | (simp only [List.length_map]; omega)) ?_) | with_reducible refine J.nil ?_ | ((with_reducible apply J.skipV); rfl; rfl; rfl) | ((with_reducible apply J.skipU); rfl; rfl) | with_reducible refine CW.seq ?_ | with_reducible refine CW.block ?_ | ((with_reducible refine CW.reg ?_ ?_); rfl) | ((with_reducible refine CW.regQN ?_ ?_ ?_ ?_); rfl; kernel_rfl; rfl) | ((with_reducible refine CW.regS 1 ?_ ?_ ?_); kernel_rfl; rfl; simp only [List.length_cons, List.length_nil, Nat.reduceAdd, Nat.reduceSub, List.take_succ_cons, List.take_zero, List.drop_succ_cons, List.drop_zero]) | with_reducible refine CW.skip ?_ | with_reducible refine CW.ret ?_ | with_reducible refine CW.exit ?_ | refine CW.condT rfl ?_ | refine CW.condF rfl ?_ | (refine CW.condD rfl (fun _ => ?_) (fun _ => ?_) <;> (try (exfalso; omega))) | (refine CW.cond rfl (fun _ => ?_) (fun _ => ?_) <;> (try (exfalso; simp only [decide_eq_true_eq, decide_eq_false_iff_not, Bool.and_eq_true, Bool.or_eq_true] at *; omega))) | with_reducible refine thenQ_n ?_ | with_reducible refine blockQ_n ?_ | ((with_reducible refine blockQ_e ?_ ?_); rfl) | ((with_reducible refine blockQ_x ?_ ?_); rfl) | with_reducible refine blockQ_r ?_ | with_reducible refine thenQ_x ?_ | with_reducible refine thenQ_r ?_ | ((fail_if_success ((with_reducible apply J.step); rfl)); (fail_if_success ((with_reducible apply J.skipU); rfl)); refine J.splitG rfl rfl (fun _ => ?_) (fun _ => ?_) <;> (try (exfalso; omega))) | ((fail_if_success ((with_reducible apply J.step); rfl)); (fail_if_success ((with_reducible apply J.skipU); rfl)); refine J.splitB rfl rfl (fun _ => ?_) (fun _ => ?_))))
          all_goals first | (exfalso; omega) | skip
          refine ⟨k+1, ?_, by first | omega | (simp only; omega), by (repeat' (first | exact trivial | rfl | refine And.intro ?_ ?_ | exact int_congr (by omega) | exact ints_congr (by first | assumption | exact Eq.symm (by assumption)) | exact int_congr (by assumption) | exact bool_congr (by first | assumption | exact Eq.symm (by assumption)) | exact map_congr' (by first | assumption | exact Eq.symm (by assumption))))⟩
          omega
      · obtain rfl : k = V.length := by omega
        rw [List.take_length]
        have hcx := hcb x
        generalize hcc : fsC V o = c at *
        by_cases hneg : st < 0
        · rw [if_pos (.inl hneg)] at hwt
          rw [if_pos hneg]
          (repeat' (first | ((with_reducible apply J.step); rfl; exact FM.st) | ((with_reducible apply J.eff); rfl; exact FM.ef) | ((with_reducible apply J.eqNil); rfl; rfl; rfl; rfl; intro bnil hbnil) | (refine J.takeRow rfl rfl AV.noConfusion rfl (by first | assumption | (simp only [List.length_map]; omega)) ?_) | with_reducible refine J.nil ?_ | ((with_reducible apply J.skipV); rfl; rfl; rfl) | ((with_reducible apply J.skipU); rfl; rfl) | with_reducible refine CW.seq ?_ | with_reducible refine CW.block ?_ | ((with_reducible refine CW.reg ?_ ?_); rfl) | ((with_reducible refine CW.regQN ?_ ?_ ?_ ?_); rfl; kernel_rfl; rfl) | ((with_reducible refine CW.regS 1 ?_ ?_ ?_); kernel_rfl; rfl; simp only [List.length_cons, List.length_nil, Nat.reduceAdd, Nat.reduceSub, List.take_succ_cons, List.take_zero, List.drop_succ_cons, List.drop_zero]) | with_reducible refine CW.skip ?_ | with_reducible refine CW.ret ?_ | with_reducible refine CW.exit ?_ | refine CW.condT rfl ?_ | refine CW.condF rfl ?_ | (refine CW.condD rfl (fun _ => ?_) (fun _ => ?_) <;> (try (exfalso; omega))) | (refine CW.cond rfl (fun _ => ?_) (fun _ => ?_) <;> (try (exfalso; simp only [decide_eq_true_eq, decide_eq_false_iff_not, Bool.and_eq_true, Bool.or_eq_true] at *; omega))) | with_reducible refine thenQ_n ?_ | with_reducible refine blockQ_n ?_ | ((with_reducible refine blockQ_e ?_ ?_); rfl) | ((with_reducible refine blockQ_x ?_ ?_); rfl) | with_reducible refine blockQ_r ?_ | with_reducible refine thenQ_x ?_ | with_reducible refine thenQ_r ?_ | ((fail_if_success ((with_reducible apply J.step); rfl)); (fail_if_success ((with_reducible apply J.skipU); rfl)); refine J.splitG rfl rfl (fun _ => ?_) (fun _ => ?_) <;> (try (exfalso; omega))) | ((fail_if_success ((with_reducible apply J.step); rfl)); (fail_if_success ((with_reducible apply J.skipU); rfl)); refine J.splitB rfl rfl (fun _ => ?_) (fun _ => ?_))))
          all_goals first | (exfalso; omega) | skip
          refine ⟨j+1, ?_, by first | omega | (simp only; omega), by (repeat' (first | exact trivial | rfl | refine And.intro ?_ ?_ | exact int_congr (by omega) | exact ints_congr (by first | assumption | exact Eq.symm (by assumption)) | exact int_congr (by assumption) | exact bool_congr (by first | assumption | exact Eq.symm (by assumption)) | exact map_congr' (by first | assumption | exact Eq.symm (by assumption)) | (rw [hwt]; rfl) | exact int_congr (by rw [hwt, if_neg (by omega)]; simp)))⟩
          omega
        · rw [if_neg hneg]
          by_cases hcm : c x ≤ c st.toNat
          · rw [if_pos (.inr hcm)] at hwt
            (repeat' (first | ((with_reducible apply J.step); rfl; exact FM.st) | ((with_reducible apply J.eff); rfl; exact FM.ef) | ((with_reducible apply J.eqNil); rfl; rfl; rfl; rfl; intro bnil hbnil) | (refine J.takeRow rfl rfl AV.noConfusion rfl (by first | assumption | (simp only [List.length_map]; omega)) ?_) | with_reducible refine J.nil ?_ | ((with_reducible apply J.skipV); rfl; rfl; rfl) | ((with_reducible apply J.skipU); rfl; rfl) | with_reducible refine CW.seq ?_ | with_reducible refine CW.block ?_ | ((with_reducible refine CW.reg ?_ ?_); rfl) | ((with_reducible refine CW.regQN ?_ ?_ ?_ ?_); rfl; kernel_rfl; rfl) | ((with_reducible refine CW.regS 1 ?_ ?_ ?_); kernel_rfl; rfl; simp only [List.length_cons, List.length_nil, Nat.reduceAdd, Nat.reduceSub, List.take_succ_cons, List.take_zero, List.drop_succ_cons, List.drop_zero]) | with_reducible refine CW.skip ?_ | with_reducible refine CW.ret ?_ | with_reducible refine CW.exit ?_ | refine CW.condT rfl ?_ | refine CW.condF rfl ?_ | (refine CW.condD rfl (fun _ => ?_) (fun _ => ?_) <;> (try (exfalso; omega))) | (refine CW.cond rfl (fun _ => ?_) (fun _ => ?_) <;> (try (exfalso; simp only [decide_eq_true_eq, decide_eq_false_iff_not, Bool.and_eq_true, Bool.or_eq_true] at *; omega))) | with_reducible refine thenQ_n ?_ | with_reducible refine blockQ_n ?_ | ((with_reducible refine blockQ_e ?_ ?_); rfl) | ((with_reducible refine blockQ_x ?_ ?_); rfl) | with_reducible refine blockQ_r ?_ | with_reducible refine thenQ_x ?_ | with_reducible refine thenQ_r ?_ | ((fail_if_success ((with_reducible apply J.step); rfl)); (fail_if_success ((with_reducible apply J.skipU); rfl)); refine J.splitG rfl rfl (fun _ => ?_) (fun _ => ?_) <;> (try (exfalso; omega))) | ((fail_if_success ((with_reducible apply J.step); rfl)); (fail_if_success ((with_reducible apply J.skipU); rfl)); refine J.splitB rfl rfl (fun _ => ?_) (fun _ => ?_))))
            all_goals first | (exfalso; omega) | skip
            refine ⟨j+1, ?_, by first | omega | (simp only; omega), by (repeat' (first | exact trivial | rfl | refine And.intro ?_ ?_ | exact int_congr (by omega) | exact ints_congr (by first | assumption | exact Eq.symm (by assumption)) | exact int_congr (by assumption) | exact bool_congr (by first | assumption | exact Eq.symm (by assumption)) | exact map_congr' (by first | assumption | exact Eq.symm (by assumption)) | (rw [hwt]; rfl) | exact int_congr (by rw [hwt, if_neg (by omega)]; simp)))⟩
            omega
          · rw [if_neg (by omega)] at hwt
            (repeat' (first | ((with_reducible apply J.step); rfl; exact FM.st) | ((with_reducible apply J.eff); rfl; exact FM.ef) | ((with_reducible apply J.eqNil); rfl; rfl; rfl; rfl; intro bnil hbnil) | (refine J.takeRow rfl rfl AV.noConfusion rfl (by first | assumption | (simp only [List.length_map]; omega)) ?_) | with_reducible refine J.nil ?_ | ((with_reducible apply J.skipV); rfl; rfl; rfl) | ((with_reducible apply J.skipU); rfl; rfl) | with_reducible refine CW.seq ?_ | with_reducible refine CW.block ?_ | ((with_reducible refine CW.reg ?_ ?_); rfl) | ((with_reducible refine CW.regQN ?_ ?_ ?_ ?_); rfl; kernel_rfl; rfl) | ((with_reducible refine CW.regS 1 ?_ ?_ ?_); kernel_rfl; rfl; simp only [List.length_cons, List.length_nil, Nat.reduceAdd, Nat.reduceSub, List.take_succ_cons, List.take_zero, List.drop_succ_cons, List.drop_zero]) | with_reducible refine CW.skip ?_ | with_reducible refine CW.ret ?_ | with_reducible refine CW.exit ?_ | refine CW.condT rfl ?_ | refine CW.condF rfl ?_ | (refine CW.condD rfl (fun _ => ?_) (fun _ => ?_) <;> (try (exfalso; omega))) | (refine CW.cond rfl (fun _ => ?_) (fun _ => ?_) <;> (try (exfalso; simp only [decide_eq_true_eq, decide_eq_false_iff_not, Bool.and_eq_true, Bool.or_eq_true] at *; omega))) | with_reducible refine thenQ_n ?_ | with_reducible refine blockQ_n ?_ | ((with_reducible refine blockQ_e ?_ ?_); rfl) | ((with_reducible refine blockQ_x ?_ ?_); rfl) | with_reducible refine blockQ_r ?_ | with_reducible refine thenQ_x ?_ | with_reducible refine thenQ_r ?_ | ((fail_if_success ((with_reducible apply J.step); rfl)); (fail_if_success ((with_reducible apply J.skipU); rfl)); refine J.splitG rfl rfl (fun _ => ?_) (fun _ => ?_) <;> (try (exfalso; omega))) | ((fail_if_success ((with_reducible apply J.step); rfl)); (fail_if_success ((with_reducible apply J.skipU); rfl)); refine J.splitB rfl rfl (fun _ => ?_) (fun _ => ?_))))
            all_goals first | (exfalso; omega) | skip
            refine ⟨j+1, ?_, by first | omega | (simp only; omega), by (repeat' (first | exact trivial | rfl | refine And.intro ?_ ?_ | exact int_congr (by omega) | exact ints_congr (by first | assumption | exact Eq.symm (by assumption)) | exact int_congr (by assumption) | exact bool_congr (by first | assumption | exact Eq.symm (by assumption)) | exact map_congr' (by first | assumption | exact Eq.symm (by assumption)) | (rw [hwt]; rfl) | exact int_congr (by rw [hwt, if_neg hneg])))⟩
            omega
    · obtain rfl : j = left.length := by omega
      rw [List.take_length, hwf, hle]
      rw [hle, Int.toNat_natCast] at hol
      have hdl := hdel l
      have hfl := hfs l (by omega) hol
      have hrr : rdR V n (m - 1) o = rdR V n (m - 1 - 1) (setO o l) := by
        obtain ⟨m', rfl⟩ : ∃ m', m = m' + 2 := ⟨m - 2, by omega⟩
        show rdR V n m' (setO o (wI o (fsC V o) n).toNat) = _
        rw [hle]; rfl
      (repeat' (first | (refine J.takeB (t := 53) (s := 5) (i := 0) rfl rfl AV.noConfusion rfl (by simp) (delJ (p := fun y => y == (l : Int)) rfl rfl rfl hne (by omega) rfl rfl eg2 (fun w0 L0 a w L hR blk hb => pred2 hR rfl (by decide) hb _) ?_)) | ((with_reducible apply J.step); rfl; (exact s_ldBox rfl rfl rfl AV.noConfusion rfl rfl)) | ((with_reducible apply J.step); rfl; (exact s_mkf (caps := [6]) rfl rfl)) | ((with_reducible apply J.eff); rfl; (exact e_stB rfl rfl rfl rfl rfl rfl)) | ((with_reducible apply J.step); rfl; exact FM.st) | ((with_reducible apply J.eff); rfl; exact FM.ef) | ((with_reducible apply J.eqNil); rfl; rfl; rfl; rfl; intro bnil hbnil) | (refine J.takeRow rfl rfl AV.noConfusion rfl (by first | assumption | (simp only [List.length_map]; omega)) ?_) | with_reducible refine J.nil ?_ | ((with_reducible apply J.skipV); rfl; rfl; rfl) | ((with_reducible apply J.skipU); rfl; rfl) | with_reducible refine CW.seq ?_ | with_reducible refine CW.block ?_ | ((with_reducible refine CW.reg ?_ ?_); rfl) | ((with_reducible refine CW.regQN ?_ ?_ ?_ ?_); rfl; kernel_rfl; rfl) | ((with_reducible refine CW.regS 1 ?_ ?_ ?_); kernel_rfl; rfl; simp only [List.length_cons, List.length_nil, Nat.reduceAdd, Nat.reduceSub, List.take_succ_cons, List.take_zero, List.drop_succ_cons, List.drop_zero]) | with_reducible refine CW.skip ?_ | with_reducible refine CW.ret ?_ | with_reducible refine CW.exit ?_ | refine CW.condT rfl ?_ | refine CW.condF rfl ?_ | (refine CW.condD rfl (fun _ => ?_) (fun _ => ?_) <;> (try (exfalso; omega))) | (refine CW.cond rfl (fun _ => ?_) (fun _ => ?_) <;> (try (exfalso; simp only [decide_eq_true_eq, decide_eq_false_iff_not, Bool.and_eq_true, Bool.or_eq_true] at *; omega))) | with_reducible refine thenQ_n ?_ | with_reducible refine blockQ_n ?_ | ((with_reducible refine blockQ_e ?_ ?_); rfl) | ((with_reducible refine blockQ_x ?_ ?_); rfl) | with_reducible refine blockQ_r ?_ | with_reducible refine thenQ_x ?_ | with_reducible refine thenQ_r ?_ | ((fail_if_success ((with_reducible apply J.step); rfl)); (fail_if_success ((with_reducible apply J.skipU); rfl)); refine J.splitG rfl rfl (fun _ => ?_) (fun _ => ?_) <;> (try (exfalso; omega))) | ((fail_if_success ((with_reducible apply J.step); rfl)); (fail_if_success ((with_reducible apply J.skipU); rfl)); refine J.splitB rfl rfl (fun _ => ?_) (fun _ => ?_))))
      all_goals first | (exfalso; omega) | skip
      refine ⟨(m - 1, setO o l), ?_, by first | omega | (simp only; omega), by (repeat' (first | exact trivial | rfl | refine And.intro ?_ ?_ | exact int_congr (by omega) | exact ints_congr (by first | assumption | exact Eq.symm (by assumption)) | exact int_congr (by assumption) | exact bool_congr (by first | assumption | exact Eq.symm (by assumption)) | exact map_congr' (by first | assumption | exact Eq.symm (by assumption)) | (rw [← hdl]; rfl)))⟩
      refine ⟨by simp only; omega, by simp only; omega, ?_, ?_⟩
      · show (fl n (notO (setO o l))).length = m - 1
        have : (fl n (notO o)).length = m := by show (lf n o).length = m; rw [hlf]; exact hl
        omega
      · rw [← hr, hrr]
end Go.Proofs.Ytjhkeilampkihaa
