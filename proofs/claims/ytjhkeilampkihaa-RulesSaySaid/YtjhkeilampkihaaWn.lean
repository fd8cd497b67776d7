/- Wins and worst defeats, of the reference. -/
import Derived.Test.YtjhkeilampkihaaCl
namespace Go.Proofs.Ytjhkeilampkihaa
open Go FM
set_option maxRecDepth 10000
set_option linter.all false
structure DTab (n : Nat) (f : Nat → Nat → Int) : Prop where
  pos : 1 ≤ n
  le : n ≤ 6
  range : ∀ a b, a < n → b < n → 0 ≤ f a b ∧ f a b ≤ 30
/-- A row in the midst of being summed up: those before x are done, x itself as far as y. -/
def accR (n : Nat) (g : Nat → Nat → Int) (x y : Nat) : List Int := tb n fun a => if a < x then g a n else if a = x then g a y else 0
theorem accR_length {n : Nat} {g : Nat → Nat → Int} {x y : Nat} : (accR n g x y).length = n := tb_length
theorem accR_at {n : Nat} {g : Nat → Nat → Int} {x y : Nat} (h : x < n) : (accR n g x y)[x]? = some (g x y) := by
  unfold accR; rw [tb_get h, if_neg (Nat.lt_irrefl _), if_pos rfl]
theorem accR_set {n : Nat} {g : Nat → Nat → Int} {x y : Nat} {v : Int} (h : v = g x (y + 1)) : (accR n g x y).set x v = accR n g x (y + 1) := by
  subst h
  unfold accR
  rw [tb_set]
  refine tb_congr fun a _ => ?_
  by_cases ha : a = x
  · subst ha; rw [if_pos rfl, if_neg (Nat.lt_irrefl _), if_pos rfl]
  · rw [if_neg ha, if_neg ha, if_neg ha]
theorem accR_skip {n : Nat} {g : Nat → Nat → Int} {x y : Nat} (h : g x y = g x (y + 1)) : accR n g x y = accR n g x (y + 1) := by
  unfold accR
  refine tb_congr fun a _ => ?_
  by_cases ha : a = x
  · subst ha; rw [if_neg (Nat.lt_irrefl _), if_pos rfl, h, if_neg (Nat.lt_irrefl _), if_pos rfl]
  · rw [if_neg ha, if_neg ha]
theorem accR_end {n : Nat} {g : Nat → Nat → Int} {x : Nat} (h0 : ∀ a, g a 0 = 0) : accR n g x n = accR n g (x + 1) 0 := by
  unfold accR
  refine tb_congr fun a _ => ?_
  by_cases h : a < x
  · rw [if_pos h, if_pos (by omega)]
  · rw [if_neg h]
    by_cases ha : a = x
    · subst ha; rw [if_pos rfl, if_pos (by omega)]
    · rw [if_neg ha, if_neg (by omega)]; split <;> simp [h0]
theorem accR_zero {n : Nat} {g : Nat → Nat → Int} (h0 : ∀ a, g a 0 = 0) : List.replicate n (0 : Int) = accR n g 0 0 := by
  rw [tb_replicate]; exact tb_congr fun a _ => by rw [if_neg (Nat.not_lt_zero _)]; split <;> simp [h0]
theorem accR_fin {n : Nat} {g : Nat → Nat → Int} : accR n g n 0 = tb n fun a => g a n := tb_congr fun a ha => by rw [if_pos ha]
def wnS (f : Nat → Nat → Int) (x y : Nat) : Int := if f y x < f x y then 1 else if f x y < f y x then -1 else 0
def wn (f : Nat → Nat → Int) (x : Nat) : Nat → Int
  | 0 => 0
  | y + 1 => wn f x y + wnS f x y
theorem wn_bound {f : Nat → Nat → Int} {x : Nat} : ∀ y : Nat, -(y : Int) ≤ wn f x y ∧ wn f x y ≤ y
  | 0 => by simp [wn]
  | y + 1 => by
    have := wn_bound (f := f) (x := x) y
    unfold wn wnS
    split
    · omega
    · split <;> omega
def ws (f : Nat → Nat → Int) (x : Nat) : Nat → Int
  | 0 => 0
  | y + 1 => max (ws f x y) (f y x - f x y)
theorem ws_pos {f : Nat → Nat → Int} {x : Nat} : ∀ y : Nat, 0 ≤ ws f x y
  | 0 => by simp [ws]
  | y + 1 => by
    have := ws_pos (f := f) (x := x) y
    unfold ws; omega
theorem winsOf_spec (n : Nat) (f : Nat → Nat → Int) (hd : DTab n f) : FnSpec Sy.P 71 [.sl false 1 ((mtx n n f).map rwS)] [.sl false 1 ((mtx n n f).map rwS)] (.tup [.sl true 1 ((tb n fun x => wn f x n).map .int), .sl true 1 ((tb n fun x => ws f x n).map .int)]) := by
  have hn1 := hd.pos
  have hn2 := hd.le
  have hlen : (mtx n n f).length = n := mtx_length
  have h0 : ∀ a, wn f a 0 = 0 := fun _ => rfl
  have h0' : ∀ a, ws f a 0 = 0 := fun _ => rfl
  refine FnSpec.enter (S := Sy) 0 Try.func71 rfl rfl rfl Try.ntmps71 rfl rfl rfl rfl fun v0 => ?_
  (repeat' (first | ((with_reducible apply J.step); rfl; exact FM.st) | ((with_reducible apply J.eff); rfl; exact FM.ef) | ((with_reducible apply J.eqNil); rfl; rfl; rfl; rfl; intro bnil hbnil) | (refine J.takeRow rfl rfl AV.noConfusion rfl (by first | assumption | (simp only [List.length_map]; omega)) ?_) | with_reducible refine J.nil ?_ | ((with_reducible apply J.skipV); rfl; rfl; rfl) | ((with_reducible apply J.skipU); rfl; rfl) | with_reducible refine CW.seq ?_ | with_reducible refine CW.block ?_ | ((with_reducible refine CW.reg ?_ ?_); rfl) | with_reducible refine CW.skip ?_ | with_reducible refine CW.ret ?_ | with_reducible refine CW.exit ?_ | refine CW.condT rfl ?_ | refine CW.condF rfl ?_ | (refine CW.condD rfl (fun _ => ?_) (fun _ => ?_) <;> (try (exfalso; omega))) | (refine CW.cond rfl (fun _ => ?_) (fun _ => ?_) <;> (try (exfalso; simp only [decide_eq_true_eq, decide_eq_false_iff_not, Bool.and_eq_true, Bool.or_eq_true] at *; omega))) | with_reducible refine thenQ_n ?_ | with_reducible refine blockQ_n ?_ | ((with_reducible refine blockQ_e ?_ ?_); rfl) | ((with_reducible refine blockQ_x ?_ ?_); rfl) | with_reducible refine blockQ_r ?_ | with_reducible refine thenQ_x ?_ | with_reducible refine thenQ_r ?_ | ((fail_if_success ((with_reducible apply J.step); rfl)); (fail_if_success ((with_reducible apply J.skipU); rfl)); refine J.splitG rfl rfl (fun _ => ?_) (fun _ => ?_) <;> (try (exfalso; omega))) | ((fail_if_success ((with_reducible apply J.step); rfl)); (fail_if_success ((with_reducible apply J.skipU); rfl)); refine J.splitB rfl rfl (fun _ => ?_) (fun _ => ?_))))
  refine CW.cut [(0, .av (.sl false 1 ((mtx n n f).map rwS))), (4, .av (.sl true 1 ((List.replicate n 0).map .int))), (5, .av (.sl true 1 ((List.replicate n 0).map .int)))] ?_ ?_
  · refine CW.reg0 8 rfl [false, false, false, false, false, false, false, false] (by kernel_rfl) rfl ?_
    apply JA.take (i := 0); rfl; (first | exact .inl rfl | exact .inr rfl); rfl; kernel_rfl; exact FM.st
    apply JA.take (i := 3); rfl; (first | exact .inl rfl | exact .inr rfl); rfl; kernel_rfl; exact FM.st
    apply JA.two (i := 1) (j := 4); kernel_rfl; rfl; rfl
    · (repeat' (first | ((with_reducible apply J.step); rfl; exact FM.st) | ((with_reducible apply J.eff); rfl; exact FM.ef) | with_reducible refine J.nil ?_))
      apply JA.two (i := 2) (j := 4); kernel_rfl; rfl; rfl
      · (repeat' (first | ((with_reducible apply J.step); rfl; exact FM.st) | ((with_reducible apply J.eff); rfl; exact FM.ef) | with_reducible refine J.nil ?_))
        apply JA.take (i := 6); rfl; (first | exact .inl rfl | exact .inr rfl); rfl; kernel_rfl; exact FM.st
        apply JA.one (i := 4); kernel_rfl; rfl
        (repeat' (first | ((with_reducible apply J.step); rfl; exact FM.st) | ((with_reducible apply J.eff); rfl; exact FM.ef) | with_reducible refine J.nil ?_))
        apply JA.one (i := 5); kernel_rfl; rfl
        (repeat' (first | ((with_reducible apply J.step); rfl; exact FM.st) | ((with_reducible apply J.eff); rfl; exact FM.ef) | with_reducible refine J.nil ?_))
        apply JA.take (i := 7); rfl; (first | exact .inl rfl | exact .inr rfl); rfl; kernel_rfl; exact FM.st
        refine JA.done (by kernel_rfl) ?_
        exact ⟨rfl, by (repeat' (first | exact trivial | rfl | refine And.intro ?_ ?_ | exact int_congr (by omega) | exact ints_congr (by first | assumption | exact Eq.symm (by assumption)) | exact int_congr (by assumption) | exact bool_congr (by first | assumption | exact Eq.symm (by assumption)) | exact map_congr' (by first | assumption | exact Eq.symm (by assumption)) | exact ints_congr (by rw [show ((((mtx n n f).length : Nat) : Int)).toNat = n by omega])))⟩
      · (repeat' (first | ((with_reducible apply J.step); rfl; exact FM.st) | ((with_reducible apply J.eff); rfl; exact FM.ef) | with_reducible refine J.nil ?_))
        apply JA.two (i := 2) (j := 5); kernel_rfl; rfl; rfl
        · (repeat' (first | ((with_reducible apply J.step); rfl; exact FM.st) | ((with_reducible apply J.eff); rfl; exact FM.ef) | with_reducible refine J.nil ?_))
          apply JA.take (i := 6); rfl; (first | exact .inl rfl | exact .inr rfl); rfl; kernel_rfl; exact FM.st
          apply JA.one (i := 5); kernel_rfl; rfl
          (repeat' (first | ((with_reducible apply J.step); rfl; exact FM.st) | ((with_reducible apply J.eff); rfl; exact FM.ef) | with_reducible refine J.nil ?_))
          apply JA.take (i := 7); rfl; (first | exact .inl rfl | exact .inr rfl); rfl; kernel_rfl; exact FM.st
          refine JA.done (by kernel_rfl) ?_
          exact ⟨rfl, by (repeat' (first | exact trivial | rfl | refine And.intro ?_ ?_ | exact int_congr (by omega) | exact ints_congr (by first | assumption | exact Eq.symm (by assumption)) | exact int_congr (by assumption) | exact bool_congr (by first | assumption | exact Eq.symm (by assumption)) | exact map_congr' (by first | assumption | exact Eq.symm (by assumption)) | exact ints_congr (by rw [show ((((mtx n n f).length : Nat) : Int)).toNat = n by omega])))⟩
        · (repeat' (first | ((with_reducible apply J.step); rfl; exact FM.st) | ((with_reducible apply J.eff); rfl; exact FM.ef) | with_reducible refine J.nil ?_))
          apply JA.one (i := 2); kernel_rfl; rfl
          (repeat' (first | ((with_reducible apply J.step); rfl; exact FM.st) | ((with_reducible apply J.eff); rfl; exact FM.ef) | with_reducible refine J.nil ?_))
          apply JA.take (i := 6); rfl; (first | exact .inl rfl | exact .inr rfl); rfl; kernel_rfl; exact FM.st
          apply JA.take (i := 7); rfl; (first | exact .inl rfl | exact .inr rfl); rfl; kernel_rfl; exact FM.st
          refine JA.done (by kernel_rfl) ?_
          exact ⟨rfl, by (repeat' (first | exact trivial | rfl | refine And.intro ?_ ?_ | exact int_congr (by omega) | exact ints_congr (by first | assumption | exact Eq.symm (by assumption)) | exact int_congr (by assumption) | exact bool_congr (by first | assumption | exact Eq.symm (by assumption)) | exact map_congr' (by first | assumption | exact Eq.symm (by assumption)) | exact ints_congr (by rw [show ((((mtx n n f).length : Nat) : Int)).toNat = n by omega])))⟩
    · (repeat' (first | ((with_reducible apply J.step); rfl; exact FM.st) | ((with_reducible apply J.eff); rfl; exact FM.ef) | with_reducible refine J.nil ?_))
      apply JA.two (i := 1) (j := 5); kernel_rfl; rfl; rfl
      · (repeat' (first | ((with_reducible apply J.step); rfl; exact FM.st) | ((with_reducible apply J.eff); rfl; exact FM.ef) | with_reducible refine J.nil ?_))
        apply JA.two (i := 2) (j := 5); kernel_rfl; rfl; rfl
        · (repeat' (first | ((with_reducible apply J.step); rfl; exact FM.st) | ((with_reducible apply J.eff); rfl; exact FM.ef) | with_reducible refine J.nil ?_))
          apply JA.take (i := 6); rfl; (first | exact .inl rfl | exact .inr rfl); rfl; kernel_rfl; exact FM.st
          apply JA.one (i := 5); kernel_rfl; rfl
          (repeat' (first | ((with_reducible apply J.step); rfl; exact FM.st) | ((with_reducible apply J.eff); rfl; exact FM.ef) | with_reducible refine J.nil ?_))
          apply JA.take (i := 7); rfl; (first | exact .inl rfl | exact .inr rfl); rfl; kernel_rfl; exact FM.st
          refine JA.done (by kernel_rfl) ?_
          exact ⟨rfl, by (repeat' (first | exact trivial | rfl | refine And.intro ?_ ?_ | exact int_congr (by omega) | exact ints_congr (by first | assumption | exact Eq.symm (by assumption)) | exact int_congr (by assumption) | exact bool_congr (by first | assumption | exact Eq.symm (by assumption)) | exact map_congr' (by first | assumption | exact Eq.symm (by assumption)) | exact ints_congr (by rw [show ((((mtx n n f).length : Nat) : Int)).toNat = n by omega])))⟩
        · (repeat' (first | ((with_reducible apply J.step); rfl; exact FM.st) | ((with_reducible apply J.eff); rfl; exact FM.ef) | with_reducible refine J.nil ?_))
          apply JA.one (i := 2); kernel_rfl; rfl
          (repeat' (first | ((with_reducible apply J.step); rfl; exact FM.st) | ((with_reducible apply J.eff); rfl; exact FM.ef) | with_reducible refine J.nil ?_))
          apply JA.take (i := 6); rfl; (first | exact .inl rfl | exact .inr rfl); rfl; kernel_rfl; exact FM.st
          apply JA.take (i := 7); rfl; (first | exact .inl rfl | exact .inr rfl); rfl; kernel_rfl; exact FM.st
          refine JA.done (by kernel_rfl) ?_
          exact ⟨rfl, by (repeat' (first | exact trivial | rfl | refine And.intro ?_ ?_ | exact int_congr (by omega) | exact ints_congr (by first | assumption | exact Eq.symm (by assumption)) | exact int_congr (by assumption) | exact bool_congr (by first | assumption | exact Eq.symm (by assumption)) | exact map_congr' (by first | assumption | exact Eq.symm (by assumption)) | exact ints_congr (by rw [show ((((mtx n n f).length : Nat) : Int)).toNat = n by omega])))⟩
      · (repeat' (first | ((with_reducible apply J.step); rfl; exact FM.st) | ((with_reducible apply J.eff); rfl; exact FM.ef) | with_reducible refine J.nil ?_))
        apply JA.one (i := 1); kernel_rfl; rfl
        (repeat' (first | ((with_reducible apply J.step); rfl; exact FM.st) | ((with_reducible apply J.eff); rfl; exact FM.ef) | with_reducible refine J.nil ?_))
        apply JA.one (i := 2); kernel_rfl; rfl
        (repeat' (first | ((with_reducible apply J.step); rfl; exact FM.st) | ((with_reducible apply J.eff); rfl; exact FM.ef) | with_reducible refine J.nil ?_))
        apply JA.take (i := 6); rfl; (first | exact .inl rfl | exact .inr rfl); rfl; kernel_rfl; exact FM.st
        apply JA.take (i := 7); rfl; (first | exact .inl rfl | exact .inr rfl); rfl; kernel_rfl; exact FM.st
        refine JA.done (by kernel_rfl) ?_
        exact ⟨rfl, by (repeat' (first | exact trivial | rfl | refine And.intro ?_ ?_ | exact int_congr (by omega) | exact ints_congr (by first | assumption | exact Eq.symm (by assumption)) | exact int_congr (by assumption) | exact bool_congr (by first | assumption | exact Eq.symm (by assumption)) | exact map_congr' (by first | assumption | exact Eq.symm (by assumption)) | exact ints_congr (by rw [show ((((mtx n n f).length : Nat) : Int)).toNat = n by omega])))⟩
  have ez := accR_zero (n := n) h0
  have ez' := accR_zero (n := n) h0'
  (repeat' (first | ((with_reducible apply J.step); rfl; exact FM.st) | ((with_reducible apply J.eff); rfl; exact FM.ef) | ((with_reducible apply J.eqNil); rfl; rfl; rfl; rfl; intro bnil hbnil) | (refine J.takeRow rfl rfl AV.noConfusion rfl (by first | assumption | (simp only [List.length_map]; omega)) ?_) | with_reducible refine J.nil ?_ | ((with_reducible apply J.skipV); rfl; rfl; rfl) | ((with_reducible apply J.skipU); rfl; rfl) | with_reducible refine CW.seq ?_ | with_reducible refine CW.block ?_ | ((with_reducible refine CW.reg ?_ ?_); rfl) | ((with_reducible refine CW.regQN ?_ ?_ ?_ ?_); rfl; kernel_rfl; rfl) | ((with_reducible refine CW.regS 1 ?_ ?_ ?_); kernel_rfl; rfl; simp only [List.length_cons, List.length_nil, Nat.reduceAdd, Nat.reduceSub, List.take_succ_cons, List.take_zero, List.drop_succ_cons, List.drop_zero]) | with_reducible refine CW.skip ?_ | with_reducible refine CW.ret ?_ | with_reducible refine CW.exit ?_ | refine CW.condT rfl ?_ | refine CW.condF rfl ?_ | (refine CW.condD rfl (fun _ => ?_) (fun _ => ?_) <;> (try (exfalso; omega))) | (refine CW.cond rfl (fun _ => ?_) (fun _ => ?_) <;> (try (exfalso; simp only [decide_eq_true_eq, decide_eq_false_iff_not, Bool.and_eq_true, Bool.or_eq_true] at *; omega))) | with_reducible refine thenQ_n ?_ | with_reducible refine blockQ_n ?_ | ((with_reducible refine blockQ_e ?_ ?_); rfl) | ((with_reducible refine blockQ_x ?_ ?_); rfl) | with_reducible refine blockQ_r ?_ | with_reducible refine thenQ_x ?_ | with_reducible refine thenQ_r ?_ | ((fail_if_success ((with_reducible apply J.step); rfl)); (fail_if_success ((with_reducible apply J.skipU); rfl)); refine J.splitG rfl rfl (fun _ => ?_) (fun _ => ?_) <;> (try (exfalso; omega))) | ((fail_if_success ((with_reducible apply J.step); rfl)); (fail_if_success ((with_reducible apply J.skipU); rfl)); refine J.splitB rfl rfl (fun _ => ?_) (fun _ => ?_))))
  refine CW.loop (fun x : Nat => [(0, .av (.sl false 1 ((mtx n n f).map rwS))), (4, .av (.sl true 1 ((accR n (wn f) x 0).map .int))), (5, .av (.sl true 1 ((accR n (ws f) x 0).map .int))), (16, .av (.int (n))), (17, .av (.int (x)))]) (fun x => x ≤ n) (fun x => n - x) (0) ?_ (by (repeat' (first | exact trivial | rfl | refine And.intro ?_ ?_ | exact int_congr (by omega) | exact ints_congr (by first | assumption | exact Eq.symm (by assumption)) | exact int_congr (by assumption) | exact bool_congr (by first | assumption | exact Eq.symm (by assumption)) | exact map_congr' (by first | assumption | exact Eq.symm (by assumption))))) ?_
  · exact Nat.zero_le _
  intro x hx
  by_cases hlt : x < n
  · (repeat' (first | ((with_reducible apply J.step); rfl; exact FM.st) | ((with_reducible apply J.eff); rfl; exact FM.ef) | ((with_reducible apply J.eqNil); rfl; rfl; rfl; rfl; intro bnil hbnil) | (refine J.takeRow rfl rfl AV.noConfusion rfl (by first | assumption | (simp only [List.length_map]; omega)) ?_) | with_reducible refine J.nil ?_ | ((with_reducible apply J.skipV); rfl; rfl; rfl) | ((with_reducible apply J.skipU); rfl; rfl) | with_reducible refine CW.seq ?_ | with_reducible refine CW.block ?_ | ((with_reducible refine CW.reg ?_ ?_); rfl) | ((with_reducible refine CW.regQN ?_ ?_ ?_ ?_); rfl; kernel_rfl; rfl) | ((with_reducible refine CW.regS 1 ?_ ?_ ?_); kernel_rfl; rfl; simp only [List.length_cons, List.length_nil, Nat.reduceAdd, Nat.reduceSub, List.take_succ_cons, List.take_zero, List.drop_succ_cons, List.drop_zero]) | with_reducible refine CW.skip ?_ | with_reducible refine CW.ret ?_ | with_reducible refine CW.exit ?_ | refine CW.condT rfl ?_ | refine CW.condF rfl ?_ | (refine CW.condD rfl (fun _ => ?_) (fun _ => ?_) <;> (try (exfalso; omega))) | (refine CW.cond rfl (fun _ => ?_) (fun _ => ?_) <;> (try (exfalso; simp only [decide_eq_true_eq, decide_eq_false_iff_not, Bool.and_eq_true, Bool.or_eq_true] at *; omega))) | with_reducible refine thenQ_n ?_ | with_reducible refine blockQ_n ?_ | ((with_reducible refine blockQ_e ?_ ?_); rfl) | ((with_reducible refine blockQ_x ?_ ?_); rfl) | with_reducible refine blockQ_r ?_ | with_reducible refine thenQ_x ?_ | with_reducible refine thenQ_r ?_ | ((fail_if_success ((with_reducible apply J.step); rfl)); (fail_if_success ((with_reducible apply J.skipU); rfl)); refine J.splitG rfl rfl (fun _ => ?_) (fun _ => ?_) <;> (try (exfalso; omega))) | ((fail_if_success ((with_reducible apply J.step); rfl)); (fail_if_success ((with_reducible apply J.skipU); rfl)); refine J.splitB rfl rfl (fun _ => ?_) (fun _ => ?_))))
    refine CW.loop (fun y : Nat => [(0, .av (.sl false 1 ((mtx n n f).map rwS))), (4, .av (.sl true 1 ((accR n (wn f) x y).map .int))), (5, .av (.sl true 1 ((accR n (ws f) x y).map .int))), (6, .av (.int (x))), (16, .av (.int (n))), (17, .av (.int (x))), (21, .av (.int (n))), (22, .av (.int (y)))]) (fun y => y ≤ n) (fun y => n - y) (0) ?_ (by (repeat' (first | exact trivial | rfl | refine And.intro ?_ ?_ | exact int_congr (by omega) | exact ints_congr (by first | assumption | exact Eq.symm (by assumption)) | exact int_congr (by assumption) | exact bool_congr (by first | assumption | exact Eq.symm (by assumption)) | exact map_congr' (by first | assumption | exact Eq.symm (by assumption))))) ?_
    · exact Nat.zero_le _
    intro y hy
    have hl := accR_length (n := n) (g := ws f) (x := x) (y := y)
    have hl' := accR_length (n := n) (g := wn f) (x := x) (y := y)
    by_cases hyl : y < n
    · have g1 := mtx_get (m := n) (f := f) hlt
      have g2 := mtx_get (m := n) (f := f) hyl
      have g3 := tb_get (g := f x) hyl
      have g4 := tb_get (g := f y) hlt
      have g5 := accR_at (g := ws f) (y := y) hlt
      have g6 := accR_at (g := wn f) (y := y) hlt
      have r1 := hd.range x y hlt hyl
      have r2 := hd.range y x hyl hlt
      have hb := wn_bound (f := f) (x := x) y
      have hsucc : wn f x (y + 1) = wn f x y + wnS f x y := rfl
      have hsucc' : ws f x (y + 1) = max (ws f x y) (f y x - f x y) := rfl
      have hp := ws_pos (f := f) (x := x) y
      by_cases h1 : f y x < f x y
      · have e1 := accR_set (n := n) (g := wn f) (x := x) (y := y) (v := wn f x y + 1) (by rw [hsucc, wnS, if_pos h1])
        have e2 := accR_skip (n := n) (g := ws f) (x := x) (y := y) (by rw [hsucc']; omega)
        (repeat' (first | ((with_reducible apply J.step); rfl; exact FM.st) | ((with_reducible apply J.eff); rfl; exact FM.ef) | ((with_reducible apply J.eqNil); rfl; rfl; rfl; rfl; intro bnil hbnil) | (refine J.takeRow rfl rfl AV.noConfusion rfl (by first | assumption | (simp only [List.length_map]; omega)) ?_) | with_reducible refine J.nil ?_ | ((with_reducible apply J.skipV); rfl; rfl; rfl) | ((with_reducible apply J.skipU); rfl; rfl) | with_reducible refine CW.seq ?_ | with_reducible refine CW.block ?_ | ((with_reducible refine CW.reg ?_ ?_); rfl) | ((with_reducible refine CW.regQN ?_ ?_ ?_ ?_); rfl; kernel_rfl; rfl) | ((with_reducible refine CW.regS 1 ?_ ?_ ?_); kernel_rfl; rfl; simp only [List.length_cons, List.length_nil, Nat.reduceAdd, Nat.reduceSub, List.take_succ_cons, List.take_zero, List.drop_succ_cons, List.drop_zero]) | with_reducible refine CW.skip ?_ | with_reducible refine CW.ret ?_ | with_reducible refine CW.exit ?_ | refine CW.condT rfl ?_ | refine CW.condF rfl ?_ | (refine CW.condD rfl (fun _ => ?_) (fun _ => ?_) <;> (try (exfalso; omega))) | (refine CW.cond rfl (fun _ => ?_) (fun _ => ?_) <;> (try (exfalso; simp only [decide_eq_true_eq, decide_eq_false_iff_not, Bool.and_eq_true, Bool.or_eq_true] at *; omega))) | with_reducible refine thenQ_n ?_ | with_reducible refine blockQ_n ?_ | ((with_reducible refine blockQ_e ?_ ?_); rfl) | ((with_reducible refine blockQ_x ?_ ?_); rfl) | with_reducible refine blockQ_r ?_ | with_reducible refine thenQ_x ?_ | with_reducible refine thenQ_r ?_ | ((fail_if_success ((with_reducible apply J.step); rfl)); (fail_if_success ((with_reducible apply J.skipU); rfl)); refine J.splitG rfl rfl (fun _ => ?_) (fun _ => ?_) <;> (try (exfalso; omega))) | ((fail_if_success ((with_reducible apply J.step); rfl)); (fail_if_success ((with_reducible apply J.skipU); rfl)); refine J.splitB rfl rfl (fun _ => ?_) (fun _ => ?_))))
        refine ⟨y+1, ?_, by first | omega | (simp only; omega), by (repeat' (first | exact trivial | rfl | refine And.intro ?_ ?_ | exact int_congr (by omega) | exact ints_congr (by first | assumption | exact Eq.symm (by assumption)) | exact int_congr (by assumption) | exact bool_congr (by first | assumption | exact Eq.symm (by assumption)) | exact map_congr' (by first | assumption | exact Eq.symm (by assumption))))⟩
        omega
      · by_cases h2 : f x y < f y x
        · have e1 := accR_set (n := n) (g := wn f) (x := x) (y := y) (v := wn f x y - 1) (by rw [hsucc, wnS, if_neg h1, if_pos h2]; omega)
          have e2 := accR_set (n := n) (g := ws f) (x := x) (y := y) (v := max (ws f x y) (-(f x y - f y x))) (by rw [hsucc']; omega)
          (repeat' (first | ((with_reducible apply J.step); rfl; exact FM.st) | ((with_reducible apply J.eff); rfl; exact FM.ef) | ((with_reducible apply J.eqNil); rfl; rfl; rfl; rfl; intro bnil hbnil) | (refine J.takeRow rfl rfl AV.noConfusion rfl (by first | assumption | (simp only [List.length_map]; omega)) ?_) | with_reducible refine J.nil ?_ | ((with_reducible apply J.skipV); rfl; rfl; rfl) | ((with_reducible apply J.skipU); rfl; rfl) | with_reducible refine CW.seq ?_ | with_reducible refine CW.block ?_ | ((with_reducible refine CW.reg ?_ ?_); rfl) | ((with_reducible refine CW.regQN ?_ ?_ ?_ ?_); rfl; kernel_rfl; rfl) | ((with_reducible refine CW.regS 1 ?_ ?_ ?_); kernel_rfl; rfl; simp only [List.length_cons, List.length_nil, Nat.reduceAdd, Nat.reduceSub, List.take_succ_cons, List.take_zero, List.drop_succ_cons, List.drop_zero]) | with_reducible refine CW.skip ?_ | with_reducible refine CW.ret ?_ | with_reducible refine CW.exit ?_ | refine CW.condT rfl ?_ | refine CW.condF rfl ?_ | (refine CW.condD rfl (fun _ => ?_) (fun _ => ?_) <;> (try (exfalso; omega))) | (refine CW.cond rfl (fun _ => ?_) (fun _ => ?_) <;> (try (exfalso; simp only [decide_eq_true_eq, decide_eq_false_iff_not, Bool.and_eq_true, Bool.or_eq_true] at *; omega))) | with_reducible refine thenQ_n ?_ | with_reducible refine blockQ_n ?_ | ((with_reducible refine blockQ_e ?_ ?_); rfl) | ((with_reducible refine blockQ_x ?_ ?_); rfl) | with_reducible refine blockQ_r ?_ | with_reducible refine thenQ_x ?_ | with_reducible refine thenQ_r ?_ | ((fail_if_success ((with_reducible apply J.step); rfl)); (fail_if_success ((with_reducible apply J.skipU); rfl)); refine J.splitG rfl rfl (fun _ => ?_) (fun _ => ?_) <;> (try (exfalso; omega))) | ((fail_if_success ((with_reducible apply J.step); rfl)); (fail_if_success ((with_reducible apply J.skipU); rfl)); refine J.splitB rfl rfl (fun _ => ?_) (fun _ => ?_))))
          refine ⟨y+1, ?_, by first | omega | (simp only; omega), by (repeat' (first | exact trivial | rfl | refine And.intro ?_ ?_ | exact int_congr (by omega) | exact ints_congr (by first | assumption | exact Eq.symm (by assumption)) | exact int_congr (by assumption) | exact bool_congr (by first | assumption | exact Eq.symm (by assumption)) | exact map_congr' (by first | assumption | exact Eq.symm (by assumption))))⟩
          omega
        · have e1 := accR_skip (n := n) (g := wn f) (x := x) (y := y) (by rw [hsucc, wnS, if_neg h1, if_neg h2]; omega)
          have e2 := accR_skip (n := n) (g := ws f) (x := x) (y := y) (by rw [hsucc']; omega)
          (repeat' (first | ((with_reducible apply J.step); rfl; exact FM.st) | ((with_reducible apply J.eff); rfl; exact FM.ef) | ((with_reducible apply J.eqNil); rfl; rfl; rfl; rfl; intro bnil hbnil) | (refine J.takeRow rfl rfl AV.noConfusion rfl (by first | assumption | (simp only [List.length_map]; omega)) ?_) | with_reducible refine J.nil ?_ | ((with_reducible apply J.skipV); rfl; rfl; rfl) | ((with_reducible apply J.skipU); rfl; rfl) | with_reducible refine CW.seq ?_ | with_reducible refine CW.block ?_ | ((with_reducible refine CW.reg ?_ ?_); rfl) | ((with_reducible refine CW.regQN ?_ ?_ ?_ ?_); rfl; kernel_rfl; rfl) | ((with_reducible refine CW.regS 1 ?_ ?_ ?_); kernel_rfl; rfl; simp only [List.length_cons, List.length_nil, Nat.reduceAdd, Nat.reduceSub, List.take_succ_cons, List.take_zero, List.drop_succ_cons, List.drop_zero]) | with_reducible refine CW.skip ?_ | with_reducible refine CW.ret ?_ | with_reducible refine CW.exit ?_ | refine CW.condT rfl ?_ | refine CW.condF rfl ?_ | (refine CW.condD rfl (fun _ => ?_) (fun _ => ?_) <;> (try (exfalso; omega))) | (refine CW.cond rfl (fun _ => ?_) (fun _ => ?_) <;> (try (exfalso; simp only [decide_eq_true_eq, decide_eq_false_iff_not, Bool.and_eq_true, Bool.or_eq_true] at *; omega))) | with_reducible refine thenQ_n ?_ | with_reducible refine blockQ_n ?_ | ((with_reducible refine blockQ_e ?_ ?_); rfl) | ((with_reducible refine blockQ_x ?_ ?_); rfl) | with_reducible refine blockQ_r ?_ | with_reducible refine thenQ_x ?_ | with_reducible refine thenQ_r ?_ | ((fail_if_success ((with_reducible apply J.step); rfl)); (fail_if_success ((with_reducible apply J.skipU); rfl)); refine J.splitG rfl rfl (fun _ => ?_) (fun _ => ?_) <;> (try (exfalso; omega))) | ((fail_if_success ((with_reducible apply J.step); rfl)); (fail_if_success ((with_reducible apply J.skipU); rfl)); refine J.splitB rfl rfl (fun _ => ?_) (fun _ => ?_))))
          refine ⟨y+1, ?_, by first | omega | (simp only; omega), by (repeat' (first | exact trivial | rfl | refine And.intro ?_ ?_ | exact int_congr (by omega) | exact ints_congr (by first | assumption | exact Eq.symm (by assumption)) | exact int_congr (by assumption) | exact bool_congr (by first | assumption | exact Eq.symm (by assumption)) | exact map_congr' (by first | assumption | exact Eq.symm (by assumption))))⟩
          omega
    · obtain rfl : y = n := by omega
      have e2 := accR_end (n := y) (g := wn f) (x := x) h0
      have e3 := accR_end (n := y) (g := ws f) (x := x) h0'
      (repeat' (first | ((with_reducible apply J.step); rfl; exact FM.st) | ((with_reducible apply J.eff); rfl; exact FM.ef) | ((with_reducible apply J.eqNil); rfl; rfl; rfl; rfl; intro bnil hbnil) | (refine J.takeRow rfl rfl AV.noConfusion rfl (by first | assumption | (simp only [List.length_map]; omega)) ?_) | with_reducible refine J.nil ?_ | ((with_reducible apply J.skipV); rfl; rfl; rfl) | ((with_reducible apply J.skipU); rfl; rfl) | with_reducible refine CW.seq ?_ | with_reducible refine CW.block ?_ | ((with_reducible refine CW.reg ?_ ?_); rfl) | ((with_reducible refine CW.regQN ?_ ?_ ?_ ?_); rfl; kernel_rfl; rfl) | ((with_reducible refine CW.regS 1 ?_ ?_ ?_); kernel_rfl; rfl; simp only [List.length_cons, List.length_nil, Nat.reduceAdd, Nat.reduceSub, List.take_succ_cons, List.take_zero, List.drop_succ_cons, List.drop_zero]) | with_reducible refine CW.skip ?_ | with_reducible refine CW.ret ?_ | with_reducible refine CW.exit ?_ | refine CW.condT rfl ?_ | refine CW.condF rfl ?_ | (refine CW.condD rfl (fun _ => ?_) (fun _ => ?_) <;> (try (exfalso; omega))) | (refine CW.cond rfl (fun _ => ?_) (fun _ => ?_) <;> (try (exfalso; simp only [decide_eq_true_eq, decide_eq_false_iff_not, Bool.and_eq_true, Bool.or_eq_true] at *; omega))) | with_reducible refine thenQ_n ?_ | with_reducible refine blockQ_n ?_ | ((with_reducible refine blockQ_e ?_ ?_); rfl) | ((with_reducible refine blockQ_x ?_ ?_); rfl) | with_reducible refine blockQ_r ?_ | with_reducible refine thenQ_x ?_ | with_reducible refine thenQ_r ?_ | ((fail_if_success ((with_reducible apply J.step); rfl)); (fail_if_success ((with_reducible apply J.skipU); rfl)); refine J.splitG rfl rfl (fun _ => ?_) (fun _ => ?_) <;> (try (exfalso; omega))) | ((fail_if_success ((with_reducible apply J.step); rfl)); (fail_if_success ((with_reducible apply J.skipU); rfl)); refine J.splitB rfl rfl (fun _ => ?_) (fun _ => ?_))))
      refine ⟨x+1, ?_, by first | omega | (simp only; omega), by (repeat' (first | exact trivial | rfl | refine And.intro ?_ ?_ | exact int_congr (by omega) | exact ints_congr (by first | assumption | exact Eq.symm (by assumption)) | exact int_congr (by assumption) | exact bool_congr (by first | assumption | exact Eq.symm (by assumption)) | exact map_congr' (by first | assumption | exact Eq.symm (by assumption))))⟩
      omega
  · obtain rfl : x = n := by omega
    (repeat' (first | ((with_reducible apply J.step); rfl; exact FM.st) | ((with_reducible apply J.eff); rfl; exact FM.ef) | ((with_reducible apply J.eqNil); rfl; rfl; rfl; rfl; intro bnil hbnil) | (refine J.takeRow rfl rfl AV.noConfusion rfl (by first | assumption | (simp only [List.length_map]; omega)) ?_) | with_reducible refine J.nil ?_ | ((with_reducible apply J.skipV); rfl; rfl; rfl) | ((with_reducible apply J.skipU); rfl; rfl) | with_reducible refine CW.seq ?_ | with_reducible refine CW.block ?_ | ((with_reducible refine CW.reg ?_ ?_); rfl) | ((with_reducible refine CW.regQN ?_ ?_ ?_ ?_); rfl; kernel_rfl; rfl) | ((with_reducible refine CW.regS 1 ?_ ?_ ?_); kernel_rfl; rfl; simp only [List.length_cons, List.length_nil, Nat.reduceAdd, Nat.reduceSub, List.take_succ_cons, List.take_zero, List.drop_succ_cons, List.drop_zero]) | with_reducible refine CW.skip ?_ | with_reducible refine CW.ret ?_ | with_reducible refine CW.exit ?_ | refine CW.condT rfl ?_ | refine CW.condF rfl ?_ | (refine CW.condD rfl (fun _ => ?_) (fun _ => ?_) <;> (try (exfalso; omega))) | (refine CW.cond rfl (fun _ => ?_) (fun _ => ?_) <;> (try (exfalso; simp only [decide_eq_true_eq, decide_eq_false_iff_not, Bool.and_eq_true, Bool.or_eq_true] at *; omega))) | with_reducible refine thenQ_n ?_ | with_reducible refine blockQ_n ?_ | ((with_reducible refine blockQ_e ?_ ?_); rfl) | ((with_reducible refine blockQ_x ?_ ?_); rfl) | with_reducible refine blockQ_r ?_ | with_reducible refine thenQ_x ?_ | with_reducible refine thenQ_r ?_ | ((fail_if_success ((with_reducible apply J.step); rfl)); (fail_if_success ((with_reducible apply J.skipU); rfl)); refine J.splitG rfl rfl (fun _ => ?_) (fun _ => ?_) <;> (try (exfalso; omega))) | ((fail_if_success ((with_reducible apply J.step); rfl)); (fail_if_success ((with_reducible apply J.skipU); rfl)); refine J.splitB rfl rfl (fun _ => ?_) (fun _ => ?_))))
    rw [← accR_fin, ← accR_fin]
    exact .mk rfl rfl rfl
end Go.Proofs.Ytjhkeilampkihaa
