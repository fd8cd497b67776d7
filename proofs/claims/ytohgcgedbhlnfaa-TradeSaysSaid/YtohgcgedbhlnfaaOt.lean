/- Orders: places, how far. -/
import Derived.Test.YtohgcgedbhlnfaaOs
namespace Go.Proofs.Ytohgcgedbhlnfaa
open Go FM
set_option maxRecDepth 10000
set_option maxHeartbeats 1600000
set_option linter.all false
/-! ### where a side stands -/
theorem ix_cons (y : Int) (r : List Int) (x : Int) : ix (y :: r) x = if x = y then 0 else (if ix r x < 0 then -1 else ix r x + 1) := by
  have shift : ∀ (l : List Int) (k : Nat), fidx (fun z => decide (x = z)) l (k + 1) = if fidx (fun z => decide (x = z)) l k < 0 then -1 else fidx (fun z => decide (x = z)) l k + 1 := by
    intro l
    induction l with
    | nil => intro k; simp [fidx]
    | cons a l ih =>
      intro k
      simp only [fidx]
      by_cases e : x = a
      · simp only [decide_eq_true e, cond_true]; rw [if_neg (by omega)]; omega
      · simp only [decide_eq_false e, cond_false]; exact ih (k + 1)
  unfold ix
  show (bif decide (x = y) then ((0 : Nat) : Int) else fidx _ r (0 + 1)) = _
  by_cases h : x = y
  · rw [decide_eq_true h, cond_true, if_pos h]; rfl
  · rw [decide_eq_false h, cond_false, if_neg h, shift]
theorem ix_neg {p : List Int} {x : Int} : ix p x < 0 ↔ x ∉ p := by
  have h := @fidx_nonneg Int (fun y => decide (x = y)) p 0
  rw [any_mem, decide_eq_true_iff] at h
  unfold ix
  rw [← h]; omega
theorem ix_lt {p : List Int} {x : Int} : -1 ≤ ix p x ∧ ix p x < p.length := by
  have := fidx_range (p := fun y => decide (x = y)) (l := p) (k := 0)
  unfold ix; omega
theorem ix_app {pre r : List Int} {x : Int} : ix (pre ++ r) x = if x ∈ pre then ix pre x else if x ∈ r then pre.length + ix r x else -1 := by
  induction pre with
  | nil =>
    simp only [List.nil_append, List.not_mem_nil, if_false, List.length_nil]
    by_cases h : x ∈ r
    · rw [if_pos h]; omega
    · rw [if_neg h]; have := ix_neg.2 h; have := ix_lt (p := r) (x := x); omega
  | cons y pre ih =>
    rw [List.cons_append, ix_cons, ix_cons, ih]
    by_cases h : x = y
    · subst h; simp
    · rw [if_neg h, if_neg h]
      simp only [List.mem_cons, h, false_or, List.length_cons]
      by_cases h1 : x ∈ pre
      · simp only [if_pos h1]
      · simp only [if_neg h1]
        by_cases h2 : x ∈ r
        · simp only [if_pos h2]
          have := mt ix_neg.1 (not_not_intro h2)
          rw [if_neg (by omega)]; omega
        · simp only [if_neg h2]; simp
theorem ix_get {p : List Int} (hn : p.Nodup) {i : Nat} (h : i < p.length) : ix p p[i] = i := by
  have e : p = p.take i ++ p[i] :: p.drop (i + 1) := by rw [← List.drop_eq_getElem_cons h, List.take_append_drop]
  have hno : p[i] ∉ p.take i := by
    rw [e] at hn
    obtain ⟨_, _, h3⟩ := List.nodup_append.1 hn
    intro hm
    exact h3 _ hm _ (List.mem_cons_self ..) rfl
  have : ix (p.take i ++ p[i] :: p.drop (i + 1)) p[i] = i := by
    rw [ix_app, if_neg hno, if_pos (List.mem_cons_self ..), ix_cons, if_pos rfl, List.length_take]; omega
  rwa [← e] at this
theorem ix_at {p : List Int} {x : Int} (h : x ∈ p) : ∃ i, ∃ (hi : i < p.length), ix p x = i ∧ p[i] = x := by
  induction p with
  | nil => cases h
  | cons y r ih =>
    by_cases e : x = y
    · exact ⟨0, by simp, by rw [ix_cons, if_pos e]; rfl, by simp [e]⟩
    · obtain ⟨i, hi, h1, h2⟩ := ih ((List.mem_cons.1 h).resolve_left e)
      exact ⟨i + 1, by simpa using hi, by rw [ix_cons, if_neg e, h1, if_neg (by omega)]; omega, by simpa using h2⟩
/-! ### sums -/
def sm (n : Nat) (f : Nat → Nat) : Nat := ((List.range n).map f).sum
theorem sm_zero {f : Nat → Nat} : sm 0 f = 0 := rfl
theorem sm_succ {n : Nat} {f : Nat → Nat} : sm (n + 1) f = sm n f + f n := by unfold sm; rw [List.range_succ]; simp
theorem sm_add {f g : Nat → Nat} : ∀ n, sm n (fun k => f k + g k) = sm n f + sm n g
  | 0 => rfl
  | n + 1 => by rw [sm_succ, sm_succ, sm_succ, sm_add n]; omega
theorem sm_congr {n : Nat} {f g : Nat → Nat} (h : ∀ k, k < n → f k = g k) : sm n f = sm n g := by
  unfold sm; rw [List.map_congr_left fun k hk => h k (List.mem_range.1 hk)]
theorem sm_le {n : Nat} {f : Nat → Nat} {m : Nat} (h : ∀ k, k < n → f k ≤ m) : sm n f ≤ m * n := by
  induction n with
  | zero => simp [sm]
  | succ n ih => rw [sm_succ, Nat.mul_succ]; have := ih fun k hk => h k (by omega); have := h n (by omega); omega
theorem tri_eq (D : Nat → Nat → Nat) (h0 : ∀ x, D x x = 0) : ∀ n, sm n (fun x => sm x (fun y => D x y + D y x)) = sm n (fun x => sm n (D x))
  | 0 => rfl
  | n + 1 => by
    rw [sm_succ, sm_succ, sm_succ, tri_eq D h0 n, sm_add n]
    have : sm n (fun x => sm (n + 1) (D x)) = sm n (fun x => sm n (D x)) + sm n (fun x => D x n) := by
      rw [← sm_add]; exact sm_congr fun k _ => sm_succ
    rw [this, h0]; omega
/-- Pairs that stand one way in p, the other in q. -/
def dif (p q : List Int) (x y : Int) : Nat := if ix p x < ix p y ∧ ix q y < ix q x then 1 else 0
theorem far_sum (q : List Int) : ∀ (r pre : List Int), (pre ++ r).Nodup → far q r = (r.map fun x => ((pre ++ r).map fun y => dif (pre ++ r) q x y).sum).sum
  | [], pre, _ => rfl
  | x :: r, pre, hn => by
    have ih := far_sum q r (pre ++ [x]) (by simpa using hn)
    rw [List.append_assoc, List.singleton_append] at ih
    rw [far, ih, List.map_cons, List.sum_cons]
    congr 1
    obtain ⟨n1, n2, n3⟩ := List.nodup_append.1 hn
    obtain ⟨n4, n5⟩ := List.nodup_cons.1 n2
    have hx : x ∉ pre := fun h => n3 _ h _ (List.mem_cons_self ..) rfl
    have hix : ix (pre ++ x :: r) x = pre.length := by rw [ix_app, if_neg hx, if_pos (List.mem_cons_self ..), ix_cons, if_pos rfl]; omega
    have e1 : ∀ y ∈ pre, dif (pre ++ x :: r) q x y = 0 := fun y hy => by
      unfold dif
      rw [if_neg]
      rw [hix, ix_app, if_pos hy]
      have := ix_lt (p := pre) (x := y)
      omega
    have e2 : dif (pre ++ x :: r) q x x = 0 := by unfold dif; rw [if_neg (by omega)]
    have e3 : ∀ y ∈ r, dif (pre ++ x :: r) q x y = if ix q y < ix q x then 1 else 0 := fun y hy => by
      have hyp : y ∉ pre := fun h => n3 _ h _ (List.mem_cons_of_mem _ hy) rfl
      have hyx : y ≠ x := fun e => n4 (e ▸ hy)
      have hpos := mt ix_neg.1 (not_not_intro hy)
      have : ix (pre ++ x :: r) x < ix (pre ++ x :: r) y := by
        rw [hix, ix_app, if_neg hyp, if_pos (List.mem_cons_of_mem _ hy), ix_cons, if_neg hyx, if_neg hpos]; omega
      unfold dif
      simp only [this, true_and]
    have z : ∀ l : List Int, (∀ y ∈ l, dif (pre ++ x :: r) q x y = 0) → (l.map fun y => dif (pre ++ x :: r) q x y).sum = 0 := fun l => by
      induction l with
      | nil => intro _; rfl
      | cons a l ih => intro h; rw [List.map_cons, List.sum_cons, h a (List.mem_cons_self ..), ih fun y hy => h y (List.mem_cons_of_mem _ hy)]
    have fi : ∀ l : List Int, farIn q x l = (l.map fun y => if ix q y < ix q x then 1 else 0).sum := fun l => by
      induction l with
      | nil => rfl
      | cons a l ih => simp only [farIn, List.map_cons, List.sum_cons, ih]
    rw [List.map_append, List.sum_append, z pre e1, List.map_cons, List.sum_cons, e2, fi, List.map_congr_left e3]
    omega
theorem perm_iota {n : Nat} {p : List Int} (h : okO n p) : p.Perm (iota n) := by
  have hl : p.length = n := by have := h.2.2; omega
  have := srt_perm p
  rw [(srt_iota hl).2 h] at this
  exact this.symm
theorem sum_iota {n : Nat} {f : Int → Nat} : ((iota n).map f).sum = sm n fun k => f k := by unfold iota sm; rw [List.map_map]; rfl
theorem sum_perm {l l' : List Int} (h : l.Perm l') (f : Int → Nat) : (l.map f).sum = (l'.map f).sum := (h.map f).sum_nat
/-- How many pairs stand otherwise. -/
def btw (n : Nat) (p q : List Int) : Nat := sm n fun x => sm x fun y => if decide (ix p x < ix p y) ≠ decide (ix q x < ix q y) then 1 else 0
theorem far_btw {n : Nat} {p q : List Int} (hp : okO n p) (hq : okO n q) : far q p = btw n p q := by
  have e := far_sum q p [] hp.2.1
  rw [List.nil_append] at e
  rw [e, sum_perm (perm_iota hp), sum_iota]
  have e2 : ∀ k : Nat, (p.map fun y => dif p q k y).sum = sm n fun j => dif p q k j := fun k => by rw [sum_perm (perm_iota hp), sum_iota]
  rw [sm_congr fun k _ => e2 k, ← tri_eq (fun x y => dif p q x y) (fun x => by unfold dif; rw [if_neg (by omega)]) n]
  unfold btw
  refine sm_congr fun x hx => sm_congr fun y hy => ?_
  have mem : ∀ (r : List Int), okO n r → ∀ k : Nat, k < n → (k : Int) ∈ r := fun r hr k hk => (perm_iota hr).mem_iff.2 (iota_mem'.2 (by omega))
  have hne : ∀ (r : List Int), okO n r → ix r x ≠ ix r y := fun r hr e => by
    obtain ⟨i, hi, h1, h2⟩ := ix_at (mem r hr x hx)
    obtain ⟨j, hj, h3, h4⟩ := ix_at (mem r hr y (by omega))
    have : i = j := by omega
    subst this
    rw [h2] at h4; omega
  have h1 := hne p hp
  have h2 := hne q hq
  unfold dif
  by_cases a : ix p x < ix p y <;> by_cases b : ix q x < ix q y
  · rw [if_neg (by omega), if_neg (by omega)]; simp [a, b]
  · rw [if_pos (by omega), if_neg (by omega)]; simp [a, b]
  · rw [if_neg (by omega), if_pos (by omega)]; simp [a, b]
  · rw [if_neg (by omega), if_neg (by omega)]; simp [a, b]
/-! ### the reference's places -/
def plc (p : List Int) : List Int := tb p.length fun x => ix p x
def plcT (p : List Int) (k : Nat) : List Int := tb p.length fun x => if ix p x < k then ix p x else 0
theorem plc_length {p : List Int} : (plc p).length = p.length := tb_length
theorem plc_get {p : List Int} {x : Nat} (h : x < p.length) : (plc p)[x]? = some (ix p x) := tb_get h
theorem orderE_ok {n : Int} {p : List Int} (h : orderE n p = 0) : 1 ≤ n ∧ n ≤ 6 ∧ okO n p := by
  unfold orderE at h
  by_cases c : n < 1 ∨ 6 < n
  · rw [if_pos c] at h; cases h
  · rw [if_neg c] at h
    by_cases c2 : okO n p
    · exact ⟨by omega, by omega, c2⟩
    · rw [if_neg c2] at h; cases h
theorem places_spec (n : Nat) (p : List Int) (h : okO n p) (hn : n ≤ 6) : FnSpec Sy.P 93 [.sl false 1 ((p).map .int)] [.sl false 1 ((p).map .int)] (.sl true 1 ((plc p).map .int)) := by
  have hl : p.length = n := by have := h.2.2; omega
  have hz : List.replicate (((p.length : Nat) : Int)).toNat (0 : Int) = plcT p 0 := by
    rw [tb_replicate, Int.toNat_natCast]
    exact tb_congr fun a ha => by
      have : (a : Int) ∈ p := (perm_iota h).mem_iff.2 (iota_mem'.2 (by omega))
      have := mt ix_neg.1 (not_not_intro this)
      rw [if_neg (by omega)]
  have hend : plcT p p.length = plc p := tb_congr fun a ha => by
    have := ix_lt (p := p) (x := a)
    rw [if_pos this.2]
  refine FnSpec.enter (S := Sy) 0 Try.func93 rfl rfl rfl Try.ntmps93 rfl rfl rfl rfl fun v0 => ?_
  (repeat' (first | ((with_reducible apply J.step); rfl; exact FM.st) | ((with_reducible apply J.eff); rfl; exact FM.ef) | ((with_reducible apply J.eqNil); rfl; rfl; rfl; rfl; intro bnil hbnil) | (refine J.takeRow rfl rfl AV.noConfusion rfl (by first | assumption | (simp only [List.length_map]; omega)) ?_) | with_reducible refine J.nil ?_ | ((with_reducible apply J.skipV); rfl; rfl; rfl) | ((with_reducible apply J.skipU); rfl; rfl) | with_reducible refine CW.seq ?_ | with_reducible refine CW.block ?_ | ((with_reducible refine CW.reg ?_ ?_); rfl) | ((with_reducible refine CW.regQN ?_ ?_ ?_ ?_); rfl; kernel_rfl; rfl) | ((with_reducible refine CW.regS 1 ?_ ?_ ?_); kernel_rfl; rfl; simp only [List.length_cons, List.length_nil, Nat.reduceAdd, Nat.reduceSub, List.take_succ_cons, List.take_zero, List.drop_succ_cons, List.drop_zero]) | with_reducible refine CW.skip ?_ | with_reducible refine CW.ret ?_ | with_reducible refine CW.exit ?_ | refine CW.condT rfl ?_ | refine CW.condF rfl ?_ | (refine CW.condD rfl (fun _ => ?_) (fun _ => ?_) <;> (try (exfalso; omega))) | (refine CW.cond rfl (fun _ => ?_) (fun _ => ?_) <;> (try (exfalso; simp only [decide_eq_true_eq, decide_eq_false_iff_not, Bool.and_eq_true, Bool.or_eq_true] at *; omega))) | with_reducible refine thenQ_n ?_ | with_reducible refine blockQ_n ?_ | ((with_reducible refine blockQ_e ?_ ?_); rfl) | ((with_reducible refine blockQ_x ?_ ?_); rfl) | with_reducible refine blockQ_r ?_ | with_reducible refine thenQ_x ?_ | with_reducible refine thenQ_r ?_ | ((fail_if_success ((with_reducible apply J.step); rfl)); (fail_if_success ((with_reducible apply J.skipU); rfl)); refine J.splitG rfl rfl (fun _ => ?_) (fun _ => ?_) <;> (try (exfalso; omega))) | ((fail_if_success ((with_reducible apply J.step); rfl)); (fail_if_success ((with_reducible apply J.skipU); rfl)); refine J.splitB rfl rfl (fun _ => ?_) (fun _ => ?_))))
  refine CW.loop (fun k : Nat => [(0, .av (.sl false 1 ((p).map .int))), (3, .av (.sl true 1 ((plcT p k).map .int))), (9, .av (.sl false 1 ((p).map .int))), (10, .av (.int (p.length))), (11, .av (.int (k)))]) (fun k => k ≤ p.length) (fun k => p.length - k) (0) ?_ (by (repeat' (first | exact trivial | rfl | refine And.intro ?_ ?_ | exact int_congr (by omega) | exact ints_congr (by first | assumption | exact Eq.symm (by assumption)) | exact int_congr (by assumption) | exact bool_congr (by first | assumption | exact Eq.symm (by assumption)) | exact map_congr' (by first | assumption | exact Eq.symm (by assumption))))) ?_
  · exact Nat.zero_le _
  intro k hk
  have hpl : (plcT p k).length = p.length := tb_length
  by_cases hlt : k < p.length
  · have hx : p[k]? = some p[k] := List.getElem?_eq_getElem hlt
    have hr := h.1 _ (List.getElem_mem hlt)
    have hix := ix_get h.2.1 hlt
    have hs : (plcT p k).set (p[k]).toNat k = plcT p (k + 1) := by
      unfold plcT
      rw [tb_set]
      refine tb_congr fun a ha => ?_
      by_cases e : a = (p[k]).toNat
      · have : (a : Int) = p[k] := by omega
        rw [if_pos e, this, hix, if_pos (by omega)]
      · rw [if_neg e]
        by_cases c : ix p a < k
        · rw [if_pos c, if_pos (by omega)]
        · rw [if_neg c]
          by_cases c2 : ix p a < (k + 1 : Nat)
          · exfalso
            have hm : (a : Int) ∈ p := (perm_iota h).mem_iff.2 (iota_mem'.2 (by omega))
            obtain ⟨i, hi, h1, h2⟩ := ix_at hm
            have : i = k := by omega
            subst this
            omega
          · rw [if_neg c2]
    have hgx : (plcT p k)[(p[k]).toNat]? = some ((plcT p k).getD (p[k]).toNat 0) := by rw [List.getD_eq_getElem?_getD, List.getElem?_eq_getElem (by omega)]; rfl
    generalize p[k] = x at *
    (repeat' (first | ((with_reducible apply J.step); rfl; exact FM.st) | ((with_reducible apply J.eff); rfl; exact FM.ef) | ((with_reducible apply J.eqNil); rfl; rfl; rfl; rfl; intro bnil hbnil) | (refine J.takeRow rfl rfl AV.noConfusion rfl (by first | assumption | (simp only [List.length_map]; omega)) ?_) | with_reducible refine J.nil ?_ | ((with_reducible apply J.skipV); rfl; rfl; rfl) | ((with_reducible apply J.skipU); rfl; rfl) | with_reducible refine CW.seq ?_ | with_reducible refine CW.block ?_ | ((with_reducible refine CW.reg ?_ ?_); rfl) | ((with_reducible refine CW.regQN ?_ ?_ ?_ ?_); rfl; kernel_rfl; rfl) | ((with_reducible refine CW.regS 1 ?_ ?_ ?_); kernel_rfl; rfl; simp only [List.length_cons, List.length_nil, Nat.reduceAdd, Nat.reduceSub, List.take_succ_cons, List.take_zero, List.drop_succ_cons, List.drop_zero]) | with_reducible refine CW.skip ?_ | with_reducible refine CW.ret ?_ | with_reducible refine CW.exit ?_ | refine CW.condT rfl ?_ | refine CW.condF rfl ?_ | (refine CW.condD rfl (fun _ => ?_) (fun _ => ?_) <;> (try (exfalso; omega))) | (refine CW.cond rfl (fun _ => ?_) (fun _ => ?_) <;> (try (exfalso; simp only [decide_eq_true_eq, decide_eq_false_iff_not, Bool.and_eq_true, Bool.or_eq_true] at *; omega))) | with_reducible refine thenQ_n ?_ | with_reducible refine blockQ_n ?_ | ((with_reducible refine blockQ_e ?_ ?_); rfl) | ((with_reducible refine blockQ_x ?_ ?_); rfl) | with_reducible refine blockQ_r ?_ | with_reducible refine thenQ_x ?_ | with_reducible refine thenQ_r ?_ | ((fail_if_success ((with_reducible apply J.step); rfl)); (fail_if_success ((with_reducible apply J.skipU); rfl)); refine J.splitG rfl rfl (fun _ => ?_) (fun _ => ?_) <;> (try (exfalso; omega))) | ((fail_if_success ((with_reducible apply J.step); rfl)); (fail_if_success ((with_reducible apply J.skipU); rfl)); refine J.splitB rfl rfl (fun _ => ?_) (fun _ => ?_))))
    refine ⟨k+1, ?_, by first | omega | (simp only; omega), by (repeat' (first | exact trivial | rfl | refine And.intro ?_ ?_ | exact int_congr (by omega) | exact ints_congr (by first | assumption | exact Eq.symm (by assumption)) | exact int_congr (by assumption) | exact bool_congr (by first | assumption | exact Eq.symm (by assumption)) | exact map_congr' (by first | assumption | exact Eq.symm (by assumption))))⟩
    omega
  · obtain rfl : k = p.length := by omega
    rw [hend]
    (repeat' (first | ((with_reducible apply J.step); rfl; exact FM.st) | ((with_reducible apply J.eff); rfl; exact FM.ef) | ((with_reducible apply J.eqNil); rfl; rfl; rfl; rfl; intro bnil hbnil) | (refine J.takeRow rfl rfl AV.noConfusion rfl (by first | assumption | (simp only [List.length_map]; omega)) ?_) | with_reducible refine J.nil ?_ | ((with_reducible apply J.skipV); rfl; rfl; rfl) | ((with_reducible apply J.skipU); rfl; rfl) | with_reducible refine CW.seq ?_ | with_reducible refine CW.block ?_ | ((with_reducible refine CW.reg ?_ ?_); rfl) | ((with_reducible refine CW.regQN ?_ ?_ ?_ ?_); rfl; kernel_rfl; rfl) | ((with_reducible refine CW.regS 1 ?_ ?_ ?_); kernel_rfl; rfl; simp only [List.length_cons, List.length_nil, Nat.reduceAdd, Nat.reduceSub, List.take_succ_cons, List.take_zero, List.drop_succ_cons, List.drop_zero]) | with_reducible refine CW.skip ?_ | with_reducible refine CW.ret ?_ | with_reducible refine CW.exit ?_ | refine CW.condT rfl ?_ | refine CW.condF rfl ?_ | (refine CW.condD rfl (fun _ => ?_) (fun _ => ?_) <;> (try (exfalso; omega))) | (refine CW.cond rfl (fun _ => ?_) (fun _ => ?_) <;> (try (exfalso; simp only [decide_eq_true_eq, decide_eq_false_iff_not, Bool.and_eq_true, Bool.or_eq_true] at *; omega))) | with_reducible refine thenQ_n ?_ | with_reducible refine blockQ_n ?_ | ((with_reducible refine blockQ_e ?_ ?_); rfl) | ((with_reducible refine blockQ_x ?_ ?_); rfl) | with_reducible refine blockQ_r ?_ | with_reducible refine thenQ_x ?_ | with_reducible refine thenQ_r ?_ | ((fail_if_success ((with_reducible apply J.step); rfl)); (fail_if_success ((with_reducible apply J.skipU); rfl)); refine J.splitG rfl rfl (fun _ => ?_) (fun _ => ?_) <;> (try (exfalso; omega))) | ((fail_if_success ((with_reducible apply J.step); rfl)); (fail_if_success ((with_reducible apply J.skipU); rfl)); refine J.splitB rfl rfl (fun _ => ?_) (fun _ => ?_))))
    exact .mk rfl rfl rfl
end Go.Proofs.Ytohgcgedbhlnfaa
