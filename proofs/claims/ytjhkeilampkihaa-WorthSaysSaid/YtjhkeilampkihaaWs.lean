/- Package worth: shared by all rows, and by all sets: the same. -/
import Derived.Test.YtjhkeilampkihaaWc
namespace Go.Proofs.Ytjhkeilampkihaa
open Go FM
set_option maxRecDepth 100000
set_option maxHeartbeats 1600000
set_option linter.all false
theorem allO_ok {n : Nat} : ∀ r ∈ allOrders n (iota n), n ≤ 6 → okO n r := fun r hr hn => by
  have hd : ∀ n, n ≤ 6 → ((allOrders n (iota n)).all fun r => decide (okO n r)) = true := fun n hn => by
    match n, hn with
    | 0, _ => decide +kernel
    | 1, _ => decide +kernel
    | 2, _ => decide +kernel
    | 3, _ => decide +kernel
    | 4, _ => decide +kernel
    | 5, _ => decide +kernel
    | 6, _ => decide +kernel
    | n + 7, h => omega
  exact of_decide_eq_true (List.all_eq_true.1 (hd n hn) r hr)
abbrev off (s j : Nat) : Nat := s ^^^ (s &&& 2 ^ j)
def tr : Nat → List Int → List (Nat × Nat)
  | _, [] => []
  | m, x :: p => (m + 2 ^ x.toNat, x.toNat) :: tr (m + 2 ^ x.toNat) p
def okPair (n : Nat) (a : Nat × Nat) : Bool := Nat.blt a.2 n && (Nat.blt a.1 (2 ^ n) && (Nat.beq (shr a.1 a.2 % 2) 1 && Nat.beq (off a.1 a.2 + 2 ^ a.2) a.1))
def allTr (n : Nat) : List (Nat × Nat) := (allOrders n (iota n)).flatMap (tr 0)
def colOf (L : List (Nat × Nat)) (j : Nat) : List Nat := (L.filter fun a => Nat.beq a.2 j).map (·.1)
def cntB (n : Nat) : Bool := (allTr n).all (okPair n) && (List.range n).all fun j => (List.range (2 ^ n)).all fun s => bif Nat.beq (shr s j % 2) 1 then Nat.beq ((colOf (allTr n) j).count s) (fact (pc n s - 1) * fact (n - pc n s)) else true
theorem cnt_ok : ∀ n, n ≤ 6 → cntB n = true
  | 0, _ => by decide +kernel
  | 1, _ => by decide +kernel
  | 2, _ => by decide +kernel
  | 3, _ => by decide +kernel
  | 4, _ => by decide +kernel
  | 5, _ => by decide +kernel
  | 6, _ => by decide +kernel
  | n + 7, h => by omega
theorem sum_single (M s : Nat) (φ : Nat → Int) (h : s < M) : ((List.range M).map fun k => if k = s then φ k else 0).sum = φ s := by
  induction M with
  | zero => omega
  | succ M ih =>
    rw [List.range_succ, List.map_append, List.sum_append]
    simp only [List.map_cons, List.map_nil, List.sum_cons, List.sum_nil]
    by_cases hs : s < M
    · rw [ih hs, if_neg (by omega)]; omega
    · obtain rfl : s = M := by omega
      have : ((List.range s).map fun k => if k = s then φ k else 0).sum = 0 := by
        have : ((List.range s).map fun k => if k = s then φ k else 0) = (List.range s).map fun _ => (0 : Int) :=
          List.map_congr_left fun k hk => by rw [if_neg (by have := List.mem_range.1 hk; omega)]
        rw [this]
        clear this ih h hs
        induction s with
        | zero => rfl
        | succ s ih => rw [List.range_succ, List.map_append, List.sum_append, ih]; rfl
      rw [this]; simp
theorem sum_map_add {α : Type} (f g : α → Int) : ∀ l : List α, (l.map fun x => f x + g x).sum = (l.map f).sum + (l.map g).sum
  | [] => rfl
  | x :: l => by simp only [List.map_cons, List.sum_cons, sum_map_add f g l]; omega
theorem sum_count (M : Nat) (φ : Nat → Int) : ∀ L : List Nat, (∀ s ∈ L, s < M) → (L.map φ).sum = ((List.range M).map fun k => ((L.count k : Nat) : Int) * φ k).sum
  | [], _ => by
    have : ((List.range M).map fun k => ((([] : List Nat).count k : Nat) : Int) * φ k) = (List.range M).map fun _ => (0 : Int) := List.map_congr_left fun k _ => by simp
    rw [this]
    clear this
    induction M with
    | zero => rfl
    | succ M ih => rw [List.range_succ, List.map_append, List.sum_append, ← ih (fun s hs => by cases hs)]; rfl
  | s :: L, h => by
    have ih := sum_count M φ L fun s hs => h s (List.mem_cons_of_mem _ hs)
    have h1 := sum_single M s φ (h s (List.mem_cons_self ..))
    rw [List.map_cons, List.sum_cons, ih, ← h1, ← sum_map_add]
    congr 1
    refine List.map_congr_left fun k _ => ?_
    rw [List.count_cons]
    by_cases hk : k = s
    · subst hk; simp [Int.add_mul]; omega
    · have : (s == k) = false := by simp; omega
      simp [hk, this]
theorem okPair_spec {n : Nat} {a : Nat × Nat} (h : okPair n a = true) : a.2 < n ∧ a.1 < 2 ^ n ∧ shr a.1 a.2 % 2 = 1 ∧ off a.1 a.2 + 2 ^ a.2 = a.1 := by
  simp only [okPair, Bool.and_eq_true] at h
  exact ⟨Nat.le_of_ble_eq_true h.1, Nat.le_of_ble_eq_true h.2.1, Nat.eq_of_beq_eq_true h.2.2.1, Nat.eq_of_beq_eq_true h.2.2.2⟩
def bitOk (n j s : Nat) : Bool := bif Nat.beq (shr s j % 2) 0 then Nat.beq (s ^^^ 2 ^ j) (s ||| 2 ^ j) && (Nat.beq (shr (s ||| 2 ^ j) j % 2) 1 && (Nat.beq (off (s ||| 2 ^ j) j) s && (Nat.beq (pc n (s ||| 2 ^ j)) (pc n s + 1) && Nat.blt (s ||| 2 ^ j) (2 ^ n)))) else Nat.beq (shr (s ^^^ 2 ^ j) j % 2) 0
theorem bitsAll : ((List.range 7).all fun n => (List.range n).all fun j => (List.range (2 ^ n)).all fun s => bitOk n j s) = true := by decide +kernel
theorem bitsOk {n : Nat} (hn : n < 7) {j : Nat} (hj : j < n) {s : Nat} (hs : s < 2 ^ n) : bitOk n j s = true :=
  List.all_eq_true.1 (List.all_eq_true.1 (List.all_eq_true.1 bitsAll n (List.mem_range.2 hn)) j (List.mem_range.2 hj)) s (List.mem_range.2 hs)
theorem bitsA (n : Nat) (hn : n < 7) (j : Nat) (hj : j < n) (s : Nat) (hs : s < 2 ^ n) (hb : shr s j % 2 = 0) : s ^^^ 2 ^ j = s ||| 2 ^ j ∧ shr (s ||| 2 ^ j) j % 2 = 1 ∧ off (s ||| 2 ^ j) j = s ∧ pc n (s ||| 2 ^ j) = pc n s + 1 ∧ s ||| 2 ^ j < 2 ^ n := by
  have h := bitsOk hn hj hs
  unfold bitOk at h
  rw [hb, show Nat.beq 0 0 = true from rfl, cond_true] at h
  simp only [Bool.and_eq_true] at h
  exact ⟨Nat.eq_of_beq_eq_true h.1, Nat.eq_of_beq_eq_true h.2.1, Nat.eq_of_beq_eq_true h.2.2.1, Nat.eq_of_beq_eq_true h.2.2.2.1, Nat.le_of_ble_eq_true h.2.2.2.2⟩
theorem bitsB (n : Nat) (hn : n < 7) (j : Nat) (hj : j < n) (s : Nat) (hs : s < 2 ^ n) (hb : shr s j % 2 = 1) : shr (s ^^^ 2 ^ j) j % 2 = 0 := by
  have h := bitsOk hn hj hs
  unfold bitOk at h
  rw [hb, show Nat.beq 1 0 = false from rfl, cond_false] at h
  exact Nat.eq_of_beq_eq_true h
theorem bitsPall : ((List.range 7).all fun n => (List.range n).all fun j => ((List.range (2 ^ n)).map (· ^^^ 2 ^ j)).isPerm (List.range (2 ^ n))) = true := by decide +kernel
theorem bitsP (n : Nat) (hn : n < 7) (j : Nat) (hj : j < n) : ((List.range (2 ^ n)).map (· ^^^ 2 ^ j)).isPerm (List.range (2 ^ n)) = true :=
  List.all_eq_true.1 (List.all_eq_true.1 bitsPall n (List.mem_range.2 hn)) j (List.mem_range.2 hj)
theorem sum_permI {l m : List Int} (h : l.Perm m) : l.sum = m.sum := by
  induction h with
  | nil => rfl
  | cons x _ ih => rw [List.sum_cons, List.sum_cons, ih]
  | swap x y l => simp only [List.sum_cons]; omega
  | trans _ _ h1 h2 => rw [h1, h2]
def cs (v : List Int) (L : List (Nat × Nat)) (j : Nat) : Int := ((colOf L j).map fun s => v.getD s 0 - v.getD (off s j) 0).sum
theorem cs_cons (v : List Int) (a : Nat × Nat) (L : List (Nat × Nat)) (j : Nat) : cs v (a :: L) j = (if a.2 = j then v.getD a.1 0 - v.getD (off a.1 j) 0 else 0) + cs v L j := by
  unfold cs colOf
  by_cases h : a.2 = j
  · rw [List.filter_cons_of_pos (by simp [h])]; simp [h]
  · rw [List.filter_cons_of_neg (by simp; exact h)]; simp [h]
theorem cs_append (v : List Int) (L L' : List (Nat × Nat)) (j : Nat) : cs v (L ++ L') j = cs v L j + cs v L' j := by
  unfold cs colOf
  rw [List.filter_append, List.map_append, List.map_append, List.sum_append]
theorem cs_none {v : List Int} {j : Nat} : ∀ (p : List Int) (m : Nat), (∀ z ∈ p, z.toNat ≠ j) → cs v (tr m p) j = 0
  | [], m, _ => rfl
  | x :: p, m, h => by
    rw [tr, cs_cons, if_neg (h x (List.mem_cons_self ..)), cs_none p _ fun z hz => h z (List.mem_cons_of_mem _ hz)]; rfl
theorem rA_tr {n : Nat} {v : List Int} {j : Nat} : ∀ (p : List Int) (m : Nat), (tr m p).all (okPair n) = true → p.Nodup → (∀ x ∈ p, 0 ≤ x) → rA v m p j = cs v (tr m p) j
  | [], m, _, _, _ => rfl
  | x :: p, m, hok, hd, h0 => by
    simp only [tr, List.all_cons, Bool.and_eq_true] at hok
    obtain ⟨h1, _, h3, h4⟩ := okPair_spec hok.1
    obtain ⟨d1, d2⟩ := List.nodup_cons.1 hd
    have h4' : off (m + 2 ^ x.toNat) x.toNat = m := by have := h4; simp only at this; omega
    rw [tr, cs_cons, rA]
    by_cases e : x.toNat = j
    · rw [if_pos e, if_pos e, ← e, cs_none p _ fun z hz ez => d1 (by
        have := h0 z (List.mem_cons_of_mem _ hz)
        have := h0 x (List.mem_cons_self ..)
        have : z = x := by omega
        rwa [← this]), h4']; simp
    · rw [if_neg e, if_neg e, rA_tr p _ hok.2 d2 fun y hy => h0 y (List.mem_cons_of_mem _ hy)]; simp
theorem rAs_tr {n : Nat} {v : List Int} {j : Nat} : ∀ R : List (List Int), (R.flatMap (tr 0)).all (okPair n) = true → (∀ r ∈ R, okO n r) → (R.map fun r => rA v 0 r j).sum = cs v (R.flatMap (tr 0)) j
  | [], _, _ => rfl
  | r :: R, hok, hr => by
    rw [List.flatMap_cons, List.all_append, Bool.and_eq_true] at hok
    have ho := hr r (List.mem_cons_self ..)
    rw [List.map_cons, List.sum_cons, List.flatMap_cons, cs_append, rAs_tr R hok.2 fun r h => hr r (List.mem_cons_of_mem _ h), rA_tr r 0 hok.1 ho.2.1 fun x hx => (ho.1 x hx).1]
def gT (n : Nat) (v : List Int) (s j : Nat) : Int := if shr s j % 2 = 1 then ((fact (pc n s - 1) * fact (n - pc n s) : Nat) : Int) * (v.getD s 0 - v.getD (off s j) 0) else 0
theorem cs_all {n : Nat} {v : List Int} {j : Nat} (hn : n ≤ 6) (hj : j < n) : cs v (allTr n) j = ((List.range (2 ^ n)).map fun s => gT n v s j).sum := by
  have hc := cnt_ok n hn
  unfold cntB at hc
  rw [Bool.and_eq_true] at hc
  obtain ⟨hok, hcnt⟩ := hc
  unfold cs
  rw [sum_count (2 ^ n) _ _ fun s hs => by
    unfold colOf at hs
    obtain ⟨a, ha, rfl⟩ := List.mem_map.1 hs
    exact (okPair_spec (List.all_eq_true.1 hok a (List.mem_filter.1 ha).1)).2.1]
  congr 1
  refine List.map_congr_left fun s hs => ?_
  unfold gT
  by_cases c : shr s j % 2 = 1
  · have hk := List.all_eq_true.1 (List.all_eq_true.1 hcnt j (List.mem_range.2 hj)) s hs
    rw [c] at hk
    simp only [Nat.beq_refl, cond_true] at hk
    have := Nat.eq_of_beq_eq_true hk
    rw [if_pos c]
    rw [this]
  · rw [if_neg c]
    have : (colOf (allTr n) j).count s = 0 := by
      rw [List.count_eq_zero]
      intro hm
      unfold colOf at hm
      obtain ⟨a, ha, rfl⟩ := List.mem_map.1 hm
      obtain ⟨m1, m2⟩ := List.mem_filter.1 ha
      have e := (okPair_spec (List.all_eq_true.1 hok a m1)).2.2.1
      rw [Nat.eq_of_beq_eq_true m2] at e
      exact c e
    rw [this]; simp
theorem gT_gW {n : Nat} {v : List Int} (hn : n ≤ 6) {s j : Nat} (hj : j < n) (hs : s < 2 ^ n) : gT n v (s ^^^ 2 ^ j) j = gW n v s j := by
  have hn : n < 7 := by omega
  rcases Nat.mod_two_eq_zero_or_one (shr s j) with hm | hm
  · obtain ⟨e1, e2, e3, e4, e5⟩ := bitsA _ hn j hj s hs hm
    rw [e1, gW_yes hm]
    unfold gT
    rw [if_pos e2, e3, e4]
    unfold wt
    rw [show pc n s + 1 - 1 = pc n s by omega, show n - (pc n s + 1) = n - 1 - pc n s by omega, Int.natCast_mul]
  · have e := bitsB _ hn j hj s hs hm
    rw [gW_no (by omega)]
    unfold gT
    rw [if_neg (by omega)]
def gS (R : List (List Int)) (v : List Int) (k y : Nat) : Int := rA v 0 (R.getD k []) y
def sharedL (n : Nat) (v : List Int) : List Int := accW (gS (allOrders n (iota n)) v) n (allOrders n (iota n)).length 0
theorem range_getD {α β : Type} (f : α → β) (d : α) (R : List α) : (List.range R.length).map (fun k => f (R.getD k d)) = R.map f := by
  apply List.ext_getElem?
  intro i
  by_cases h : i < R.length
  · rw [List.getElem?_map, List.getElem?_map, List.getElem?_range h, List.getElem?_eq_getElem h, Option.map_some, Option.map_some, List.getD_eq_getElem?_getD, List.getElem?_eq_getElem h]; rfl
  · rw [List.getElem?_eq_none (by simp; omega), List.getElem?_eq_none (by simp; omega)]
theorem shared_eq {n : Nat} {v : List Int} (hn : n ≤ 6) : sharedL n v = shareL n v := by
  have hc := cnt_ok n hn
  unfold cntB at hc
  rw [Bool.and_eq_true] at hc
  unfold sharedL shareL
  apply List.ext_getElem?
  intro j
  by_cases hj : j < n
  · rw [accW_get hj, accW_get hj, if_neg (Nat.not_lt_zero _), if_neg (Nat.not_lt_zero _)]
    congr 1
    have hp := List.isPerm_iff.1 (bitsP n (by omega) j hj)
    have h1 := sum_permI (hp.map fun s => gT n v s j)
    have h2 : ((List.range (allOrders n (iota n)).length).map fun s' => gS (allOrders n (iota n)) v s' j).sum = ((allOrders n (iota n)).map fun r => rA v 0 r j).sum :=
      congrArg List.sum (range_getD (fun r => rA v 0 r j) [] (allOrders n (iota n)))
    rw [h2, rAs_tr (allOrders n (iota n)) hc.1 fun r hr => allO_ok r hr hn]
    show cs v (allTr n) j = _
    rw [cs_all hn hj, ← h1, List.map_map]
    congr 1
    exact List.map_congr_left fun s hs => gT_gW hn hj (List.mem_range.1 hs)
  · rw [List.getElem?_eq_none (by rw [accW_length]; omega), List.getElem?_eq_none (by rw [accW_length]; omega)]
/-! ### the walk -/
theorem rA_bound {n : Nat} {v : List Int} (h : VOk n v) {j : Nat} : ∀ (p : List Int) (m : Nat), -2000000 ≤ rA v m p j ∧ rA v m p j ≤ 2000000
  | [], m => by simp [rA]
  | x :: p, m => by
    have ih := rA_bound h (j := j) p (m + 2 ^ x.toNat)
    have a1 := getD_range h m
    have a2 := getD_range h (m + 2 ^ x.toNat)
    rw [rA]
    split <;> omega
theorem sharedOf_spec (n : Nat) (v : List Int) (h : VOk n v) : FnSpec Sy.P 83 [.int n, .sl false 1 ((v).map .int)] [.int n, .sl false 1 ((v).map .int)] (.sl true 1 ((sharedL n v).map .int)) := by
  have h1 := h.n1; have h6 := h.n6
  have hS := Sides_spec n (by omega)
  have hO := AllOrders_spec n (iota n) (iota_length n) h6
  have hl := allOrders_length n (iota n) (iota_length n)
  have hf := fact_le n h6
  have hok := fun r hr => @allO_ok n r hr h6
  unfold sharedL
  generalize allOrders n (iota n) = R at *
  refine FnSpec.enter (S := Sy) 0 Try.func83 rfl rfl rfl Try.ntmps83 rfl rfl rfl rfl fun v0 => ?_
  (repeat' (first | (refine J.freezeO 13 rfl rfl sh_int rfl ?_) | ((with_reducible apply J.step); rfl; exact FM.st) | ((with_reducible apply J.eff); rfl; exact FM.ef) | ((with_reducible apply J.callP (hS)); rfl; rfl; (repeat' (first | exact ArgsOk.nil | apply ArgsOk.cons | exact ArgOk.pl rfl rfl | exact ArgOk.br rfl AV.noConfusion (by first | rfl | exact sh_int | exact sh_rows | exact sh_rowsO))); (first | rfl | exact (fun h => Bool.noConfusion h) | exact (fun _ => noSh_ints) | exact (fun _ => noSh_rows) | exact (fun _ => NoSh.int) | exact (fun _ => NoSh.bool) | exact (fun _ => NoSh.nil) | exact (fun _ => noSh_tup2 (by first | exact noSh_ints | exact noSh_rows | exact NoSh.nil | exact NoSh.int | exact NoSh.bool) (by first | exact noSh_ints | exact NoSh.int | exact NoSh.bool | exact noSh_rows | exact NoSh.nil)) | exact (fun _ => noSh_tup3 (by first | exact noSh_ints | exact noSh_rows | exact NoSh.nil | exact NoSh.int | exact NoSh.bool) (by first | exact noSh_ints | exact NoSh.int | exact NoSh.bool | exact noSh_rows | exact NoSh.nil) (by first | exact noSh_ints | exact NoSh.int | exact NoSh.bool | exact noSh_rows | exact NoSh.nil)))) | ((with_reducible apply J.callPQ (hS)); rfl; rfl; (repeat' (first | exact ArgsOk.nil | apply ArgsOk.cons | exact ArgOk.pl rfl rfl | exact ArgOk.br rfl AV.noConfusion (by first | rfl | exact sh_int | exact sh_rows | exact sh_rowsO))); rfl) | ((with_reducible apply J.callP (hO)); rfl; rfl; (repeat' (first | exact ArgsOk.nil | apply ArgsOk.cons | exact ArgOk.pl rfl rfl | exact ArgOk.br rfl AV.noConfusion (by first | rfl | exact sh_int | exact sh_rows | exact sh_rowsO))); (first | rfl | exact (fun h => Bool.noConfusion h) | exact (fun _ => noSh_ints) | exact (fun _ => noSh_rows) | exact (fun _ => NoSh.int) | exact (fun _ => NoSh.bool) | exact (fun _ => NoSh.nil) | exact (fun _ => noSh_tup2 (by first | exact noSh_ints | exact noSh_rows | exact NoSh.nil | exact NoSh.int | exact NoSh.bool) (by first | exact noSh_ints | exact NoSh.int | exact NoSh.bool | exact noSh_rows | exact NoSh.nil)) | exact (fun _ => noSh_tup3 (by first | exact noSh_ints | exact noSh_rows | exact NoSh.nil | exact NoSh.int | exact NoSh.bool) (by first | exact noSh_ints | exact NoSh.int | exact NoSh.bool | exact noSh_rows | exact NoSh.nil) (by first | exact noSh_ints | exact NoSh.int | exact NoSh.bool | exact noSh_rows | exact NoSh.nil)))) | ((with_reducible apply J.callPQ (hO)); rfl; rfl; (repeat' (first | exact ArgsOk.nil | apply ArgsOk.cons | exact ArgOk.pl rfl rfl | exact ArgOk.br rfl AV.noConfusion (by first | rfl | exact sh_int | exact sh_rows | exact sh_rowsO))); rfl) | ((with_reducible apply J.eqNil); rfl; rfl; rfl; rfl; intro bnil hbnil) | (refine J.takeRow rfl rfl AV.noConfusion rfl (by first | assumption | (simp only [List.length_map]; omega)) ?_) | with_reducible refine J.nil ?_ | ((with_reducible apply J.skipV); rfl; rfl; rfl) | ((with_reducible apply J.skipU); rfl; rfl) | with_reducible refine CW.seq ?_ | with_reducible refine CW.block ?_ | ((with_reducible refine CW.reg ?_ ?_); rfl) | ((with_reducible refine CW.regQN ?_ ?_ ?_ ?_); rfl; kernel_rfl; rfl) | ((with_reducible refine CW.regS 1 ?_ ?_ ?_); kernel_rfl; rfl; simp only [List.length_cons, List.length_nil, Nat.reduceAdd, Nat.reduceSub, List.take_succ_cons, List.take_zero, List.drop_succ_cons, List.drop_zero]) | with_reducible refine CW.skip ?_ | with_reducible refine CW.ret ?_ | with_reducible refine CW.exit ?_ | refine CW.condT rfl ?_ | refine CW.condF rfl ?_ | (refine CW.condD rfl (fun _ => ?_) (fun _ => ?_) <;> (try (exfalso; omega))) | (refine CW.cond rfl (fun _ => ?_) (fun _ => ?_) <;> (try (exfalso; simp only [decide_eq_true_eq, decide_eq_false_iff_not, Bool.and_eq_true, Bool.or_eq_true] at *; omega))) | with_reducible refine thenQ_n ?_ | with_reducible refine blockQ_n ?_ | ((with_reducible refine blockQ_e ?_ ?_); rfl) | ((with_reducible refine blockQ_x ?_ ?_); rfl) | with_reducible refine blockQ_r ?_ | with_reducible refine thenQ_x ?_ | with_reducible refine thenQ_r ?_ | ((fail_if_success ((with_reducible apply J.step); rfl)); (fail_if_success ((with_reducible apply J.skipU); rfl)); refine J.splitG rfl rfl (fun _ => ?_) (fun _ => ?_) <;> (try (exfalso; omega))) | ((fail_if_success ((with_reducible apply J.step); rfl)); (fail_if_success ((with_reducible apply J.skipU); rfl)); refine J.splitB rfl rfl (fun _ => ?_) (fun _ => ?_))))
  refine CW.loop (fun k : Nat => [(1, .av (.sl false 1 ((v).map .int))), (5, .av (.sl true 1 ((accW (gS R v) n k 0).map .int))), (14, .av (.sl true 1 (R.map rowS))), (15, .av (.int (R.length))), (16, .av (.int (k)))]) (fun k => k ≤ R.length) (fun k => R.length - k) (0) ?_ (by (repeat' (first | exact trivial | rfl | refine And.intro ?_ ?_ | exact int_congr (by omega) | exact ints_congr (by first | assumption | exact Eq.symm (by assumption)) | exact int_congr (by assumption) | exact bool_congr (by first | assumption | exact Eq.symm (by assumption)) | exact map_congr' (by first | assumption | exact Eq.symm (by assumption)) | exact ints_congr (by rw [Int.toNat_natCast]; exact accW_zero)))) ?_
  · exact Nat.zero_le _
  intro k hk
  by_cases hlt : k < R.length
  · have hx : R[k]? = some R[k] := List.getElem?_eq_getElem hlt
    have hro := hok _ (List.getElem_mem hlt)
    have hRow := rowOf_spec n v R[k] h hro
    have hgd : R.getD k [] = R[k] := by rw [List.getD_eq_getElem?_getD, hx]; rfl
    have hgs : ∀ y, gS R v k y = rA v 0 R[k] y := fun y => by unfold gS; rw [hgd]
    have hpl : R[k].length = n := by have := hro.2.2; omega
    generalize R[k] = p at *
    (repeat' (first | ((with_reducible apply J.step); rfl; exact FM.st) | ((with_reducible apply J.eff); rfl; exact FM.ef) | ((with_reducible apply J.callP (hRow)); rfl; rfl; (repeat' (first | exact ArgsOk.nil | apply ArgsOk.cons | exact ArgOk.pl rfl rfl | exact ArgOk.br rfl AV.noConfusion (by first | rfl | exact sh_int | exact sh_rows | exact sh_rowsO))); (first | rfl | exact (fun h => Bool.noConfusion h) | exact (fun _ => noSh_ints) | exact (fun _ => noSh_rows) | exact (fun _ => NoSh.int) | exact (fun _ => NoSh.bool) | exact (fun _ => NoSh.nil) | exact (fun _ => noSh_tup2 (by first | exact noSh_ints | exact noSh_rows | exact NoSh.nil | exact NoSh.int | exact NoSh.bool) (by first | exact noSh_ints | exact NoSh.int | exact NoSh.bool | exact noSh_rows | exact NoSh.nil)) | exact (fun _ => noSh_tup3 (by first | exact noSh_ints | exact noSh_rows | exact NoSh.nil | exact NoSh.int | exact NoSh.bool) (by first | exact noSh_ints | exact NoSh.int | exact NoSh.bool | exact noSh_rows | exact NoSh.nil) (by first | exact noSh_ints | exact NoSh.int | exact NoSh.bool | exact noSh_rows | exact NoSh.nil)))) | ((with_reducible apply J.callPQ (hRow)); rfl; rfl; (repeat' (first | exact ArgsOk.nil | apply ArgsOk.cons | exact ArgOk.pl rfl rfl | exact ArgOk.br rfl AV.noConfusion (by first | rfl | exact sh_int | exact sh_rows | exact sh_rowsO))); rfl) | ((with_reducible apply J.eqNil); rfl; rfl; rfl; rfl; intro bnil hbnil) | (refine J.takeRow rfl rfl AV.noConfusion rfl (by first | assumption | (simp only [List.length_map]; omega)) ?_) | with_reducible refine J.nil ?_ | ((with_reducible apply J.skipV); rfl; rfl; rfl) | ((with_reducible apply J.skipU); rfl; rfl) | with_reducible refine CW.seq ?_ | with_reducible refine CW.block ?_ | ((with_reducible refine CW.reg ?_ ?_); rfl) | ((with_reducible refine CW.regQN ?_ ?_ ?_ ?_); rfl; kernel_rfl; rfl) | ((with_reducible refine CW.regS 1 ?_ ?_ ?_); kernel_rfl; rfl; simp only [List.length_cons, List.length_nil, Nat.reduceAdd, Nat.reduceSub, List.take_succ_cons, List.take_zero, List.drop_succ_cons, List.drop_zero]) | with_reducible refine CW.skip ?_ | with_reducible refine CW.ret ?_ | with_reducible refine CW.exit ?_ | refine CW.condT rfl ?_ | refine CW.condF rfl ?_ | (refine CW.condD rfl (fun _ => ?_) (fun _ => ?_) <;> (try (exfalso; omega))) | (refine CW.cond rfl (fun _ => ?_) (fun _ => ?_) <;> (try (exfalso; simp only [decide_eq_true_eq, decide_eq_false_iff_not, Bool.and_eq_true, Bool.or_eq_true] at *; omega))) | with_reducible refine thenQ_n ?_ | with_reducible refine blockQ_n ?_ | ((with_reducible refine blockQ_e ?_ ?_); rfl) | ((with_reducible refine blockQ_x ?_ ?_); rfl) | with_reducible refine blockQ_r ?_ | with_reducible refine thenQ_x ?_ | with_reducible refine thenQ_r ?_ | ((fail_if_success ((with_reducible apply J.step); rfl)); (fail_if_success ((with_reducible apply J.skipU); rfl)); refine J.splitG rfl rfl (fun _ => ?_) (fun _ => ?_) <;> (try (exfalso; omega))) | ((fail_if_success ((with_reducible apply J.step); rfl)); (fail_if_success ((with_reducible apply J.skipU); rfl)); refine J.splitB rfl rfl (fun _ => ?_) (fun _ => ?_))))
    refine CW.loop (fun i : Nat => [(1, .av (.sl false 1 ((v).map .int))), (5, .av (.sl true 1 ((accW (gS R v) n k i).map .int))), (14, .av (.sl true 1 (R.map rowS))), (15, .av (.int (R.length))), (16, .av (.int (k))), (22, .av (.sl true 1 ((rowL n v p).map .int))), (23, .av (.int ((rowL n v p).length))), (24, .av (.int (i)))]) (fun i => i ≤ n) (fun i => n - i) (0) ?_ (by (repeat' (first | exact trivial | rfl | refine And.intro ?_ ?_ | exact int_congr (by omega) | exact ints_congr (by first | assumption | exact Eq.symm (by assumption)) | exact int_congr (by assumption) | exact bool_congr (by first | assumption | exact Eq.symm (by assumption)) | exact map_congr' (by first | assumption | exact Eq.symm (by assumption))))) ?_
    · exact Nat.zero_le _
    intro i hi
    have hrl : (rowL n v p).length = n := tb_length
    have hal := accW_length (gS R v) n k i
    by_cases hil : i < n
    · have hy : (rowL n v p)[i]? = some (rA v 0 p i) := tb_get hil
      have hat := accW_at (g := gS R v) (s := k) hil
      have hbd := sum_range_abs (f := fun s' => gS R v s' i) (m := 2000000) k fun s _ => rA_bound h _ _
      have hsc := accW_succ (g := gS R v) (s := k) hil (hgs i).symm
      have hrb := rA_bound h (j := i) p 0
      generalize ((List.range k).map fun s' => gS R v s' i).sum = A at *
      generalize rA v 0 p i = z at *
      (repeat' (first | ((with_reducible apply J.step); rfl; exact FM.st) | ((with_reducible apply J.eff); rfl; exact FM.ef) | ((with_reducible apply J.eqNil); rfl; rfl; rfl; rfl; intro bnil hbnil) | (refine J.takeRow rfl rfl AV.noConfusion rfl (by first | assumption | (simp only [List.length_map]; omega)) ?_) | with_reducible refine J.nil ?_ | ((with_reducible apply J.skipV); rfl; rfl; rfl) | ((with_reducible apply J.skipU); rfl; rfl) | with_reducible refine CW.seq ?_ | with_reducible refine CW.block ?_ | ((with_reducible refine CW.reg ?_ ?_); rfl) | ((with_reducible refine CW.regQN ?_ ?_ ?_ ?_); rfl; kernel_rfl; rfl) | ((with_reducible refine CW.regS 1 ?_ ?_ ?_); kernel_rfl; rfl; simp only [List.length_cons, List.length_nil, Nat.reduceAdd, Nat.reduceSub, List.take_succ_cons, List.take_zero, List.drop_succ_cons, List.drop_zero]) | with_reducible refine CW.skip ?_ | with_reducible refine CW.ret ?_ | with_reducible refine CW.exit ?_ | refine CW.condT rfl ?_ | refine CW.condF rfl ?_ | (refine CW.condD rfl (fun _ => ?_) (fun _ => ?_) <;> (try (exfalso; omega))) | (refine CW.cond rfl (fun _ => ?_) (fun _ => ?_) <;> (try (exfalso; simp only [decide_eq_true_eq, decide_eq_false_iff_not, Bool.and_eq_true, Bool.or_eq_true] at *; omega))) | with_reducible refine thenQ_n ?_ | with_reducible refine blockQ_n ?_ | ((with_reducible refine blockQ_e ?_ ?_); rfl) | ((with_reducible refine blockQ_x ?_ ?_); rfl) | with_reducible refine blockQ_r ?_ | with_reducible refine thenQ_x ?_ | with_reducible refine thenQ_r ?_ | ((fail_if_success ((with_reducible apply J.step); rfl)); (fail_if_success ((with_reducible apply J.skipU); rfl)); refine J.splitG rfl rfl (fun _ => ?_) (fun _ => ?_) <;> (try (exfalso; omega))) | ((fail_if_success ((with_reducible apply J.step); rfl)); (fail_if_success ((with_reducible apply J.skipU); rfl)); refine J.splitB rfl rfl (fun _ => ?_) (fun _ => ?_))))
      refine ⟨i+1, ?_, by first | omega | (simp only; omega), by (repeat' (first | exact trivial | rfl | refine And.intro ?_ ?_ | exact int_congr (by omega) | exact ints_congr (by first | assumption | exact Eq.symm (by assumption)) | exact int_congr (by assumption) | exact bool_congr (by first | assumption | exact Eq.symm (by assumption)) | exact map_congr' (by first | assumption | exact Eq.symm (by assumption))))⟩
      omega
    · obtain rfl : i = n := by omega
      rw [accW_end]
      (repeat' (first | ((with_reducible apply J.step); rfl; exact FM.st) | ((with_reducible apply J.eff); rfl; exact FM.ef) | ((with_reducible apply J.eqNil); rfl; rfl; rfl; rfl; intro bnil hbnil) | (refine J.takeRow rfl rfl AV.noConfusion rfl (by first | assumption | (simp only [List.length_map]; omega)) ?_) | with_reducible refine J.nil ?_ | ((with_reducible apply J.skipV); rfl; rfl; rfl) | ((with_reducible apply J.skipU); rfl; rfl) | with_reducible refine CW.seq ?_ | with_reducible refine CW.block ?_ | ((with_reducible refine CW.reg ?_ ?_); rfl) | ((with_reducible refine CW.regQN ?_ ?_ ?_ ?_); rfl; kernel_rfl; rfl) | ((with_reducible refine CW.regS 1 ?_ ?_ ?_); kernel_rfl; rfl; simp only [List.length_cons, List.length_nil, Nat.reduceAdd, Nat.reduceSub, List.take_succ_cons, List.take_zero, List.drop_succ_cons, List.drop_zero]) | with_reducible refine CW.skip ?_ | with_reducible refine CW.ret ?_ | with_reducible refine CW.exit ?_ | refine CW.condT rfl ?_ | refine CW.condF rfl ?_ | (refine CW.condD rfl (fun _ => ?_) (fun _ => ?_) <;> (try (exfalso; omega))) | (refine CW.cond rfl (fun _ => ?_) (fun _ => ?_) <;> (try (exfalso; simp only [decide_eq_true_eq, decide_eq_false_iff_not, Bool.and_eq_true, Bool.or_eq_true] at *; omega))) | with_reducible refine thenQ_n ?_ | with_reducible refine blockQ_n ?_ | ((with_reducible refine blockQ_e ?_ ?_); rfl) | ((with_reducible refine blockQ_x ?_ ?_); rfl) | with_reducible refine blockQ_r ?_ | with_reducible refine thenQ_x ?_ | with_reducible refine thenQ_r ?_ | ((fail_if_success ((with_reducible apply J.step); rfl)); (fail_if_success ((with_reducible apply J.skipU); rfl)); refine J.splitG rfl rfl (fun _ => ?_) (fun _ => ?_) <;> (try (exfalso; omega))) | ((fail_if_success ((with_reducible apply J.step); rfl)); (fail_if_success ((with_reducible apply J.skipU); rfl)); refine J.splitB rfl rfl (fun _ => ?_) (fun _ => ?_))))
      refine ⟨k+1, ?_, by first | omega | (simp only; omega), by (repeat' (first | exact trivial | rfl | refine And.intro ?_ ?_ | exact int_congr (by omega) | exact ints_congr (by first | assumption | exact Eq.symm (by assumption)) | exact int_congr (by assumption) | exact bool_congr (by first | assumption | exact Eq.symm (by assumption)) | exact map_congr' (by first | assumption | exact Eq.symm (by assumption))))⟩
      omega
  · obtain rfl : k = R.length := by omega
    (repeat' (first | ((with_reducible apply J.step); rfl; exact FM.st) | ((with_reducible apply J.eff); rfl; exact FM.ef) | ((with_reducible apply J.eqNil); rfl; rfl; rfl; rfl; intro bnil hbnil) | (refine J.takeRow rfl rfl AV.noConfusion rfl (by first | assumption | (simp only [List.length_map]; omega)) ?_) | with_reducible refine J.nil ?_ | ((with_reducible apply J.skipV); rfl; rfl; rfl) | ((with_reducible apply J.skipU); rfl; rfl) | with_reducible refine CW.seq ?_ | with_reducible refine CW.block ?_ | ((with_reducible refine CW.reg ?_ ?_); rfl) | ((with_reducible refine CW.regQN ?_ ?_ ?_ ?_); rfl; kernel_rfl; rfl) | ((with_reducible refine CW.regS 1 ?_ ?_ ?_); kernel_rfl; rfl; simp only [List.length_cons, List.length_nil, Nat.reduceAdd, Nat.reduceSub, List.take_succ_cons, List.take_zero, List.drop_succ_cons, List.drop_zero]) | with_reducible refine CW.skip ?_ | with_reducible refine CW.ret ?_ | with_reducible refine CW.exit ?_ | refine CW.condT rfl ?_ | refine CW.condF rfl ?_ | (refine CW.condD rfl (fun _ => ?_) (fun _ => ?_) <;> (try (exfalso; omega))) | (refine CW.cond rfl (fun _ => ?_) (fun _ => ?_) <;> (try (exfalso; simp only [decide_eq_true_eq, decide_eq_false_iff_not, Bool.and_eq_true, Bool.or_eq_true] at *; omega))) | with_reducible refine thenQ_n ?_ | with_reducible refine blockQ_n ?_ | ((with_reducible refine blockQ_e ?_ ?_); rfl) | ((with_reducible refine blockQ_x ?_ ?_); rfl) | with_reducible refine blockQ_r ?_ | with_reducible refine thenQ_x ?_ | with_reducible refine thenQ_r ?_ | ((fail_if_success ((with_reducible apply J.step); rfl)); (fail_if_success ((with_reducible apply J.skipU); rfl)); refine J.splitG rfl rfl (fun _ => ?_) (fun _ => ?_) <;> (try (exfalso; omega))) | ((fail_if_success ((with_reducible apply J.step); rfl)); (fail_if_success ((with_reducible apply J.skipU); rfl)); refine J.splitB rfl rfl (fun _ => ?_) (fun _ => ?_))))
    exact .mk rfl rfl rfl
end Go.Proofs.Ytjhkeilampkihaa
