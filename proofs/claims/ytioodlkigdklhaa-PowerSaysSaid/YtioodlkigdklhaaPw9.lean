/- Who turns the vote: by all orders, and by all sets: the same. -/
import Derived.Test.YtioodlkigdklhaaPw8
namespace Go.Proofs.Ytioodlkigdklhaa
open Go FM
set_option linter.all false
theorem sum_single (M s : Nat) (φ : Nat → Int) (h : s < M) : ((List.range M).map fun k => if k = s then φ k else 0).sum = φ s := by
  induction M with
  | zero => omega
  | succ M ih =>
    rw [List.range_succ, List.map_append, List.sum_append]
    simp only [List.map_cons, List.map_nil, List.sum_cons, List.sum_nil]
    by_cases hs : s < M
    · rw [ih hs, if_neg (by omega)]; omega
    · obtain rfl : s = M := by omega
      have : ((List.range s).map fun k => if k = s then φ k else 0).sum = 0 := by
        have : ((List.range s).map fun k => if k = s then φ k else 0) = (List.range s).map fun _ => (0 : Int) :=
          List.map_congr_left fun k hk => by rw [if_neg (by have := List.mem_range.1 hk; omega)]
        rw [this]
        clear this ih h hs
        induction s with
        | zero => rfl
        | succ s ih => rw [List.range_succ, List.map_append, List.sum_append, ih]; rfl
      rw [this]; simp
theorem sum_map_add {α : Type} (f g : α → Int) : ∀ l : List α, (l.map fun x => f x + g x).sum = (l.map f).sum + (l.map g).sum
  | [] => rfl
  | x :: l => by simp only [List.map_cons, List.sum_cons, sum_map_add f g l]; omega
theorem sum_count (M : Nat) (φ : Nat → Int) : ∀ L : List Nat, (∀ s ∈ L, s < M) → (L.map φ).sum = ((List.range M).map fun k => ((L.count k : Nat) : Int) * φ k).sum
  | [], _ => by
    have : ((List.range M).map fun k => ((([] : List Nat).count k : Nat) : Int) * φ k) = (List.range M).map fun _ => (0 : Int) := List.map_congr_left fun k _ => by simp
    rw [this]
    clear this
    induction M with
    | zero => rfl
    | succ M ih => rw [List.range_succ, List.map_append, List.sum_append, ← ih (fun s hs => by cases hs)]; rfl
  | s :: L, h => by
    have ih := sum_count M φ L fun s hs => h s (List.mem_cons_of_mem _ hs)
    have h1 := sum_single M s φ (h s (List.mem_cons_self ..))
    rw [List.map_cons, List.sum_cons, ih, ← h1, ← sum_map_add]
    congr 1
    refine List.map_congr_left fun k _ => ?_
    rw [List.count_cons]
    by_cases hk : k = s
    · subst hk; simp [Int.add_mul]; omega
    · have : (s == k) = false := by simp; omega
      simp [hk, this]
theorem getD_set (l : List Int) (i j : Nat) (v : Int) (hi : i < l.length) : (l.set i v).getD j 0 = if i = j then v else l.getD j 0 := by
  rw [List.getD_eq_getElem?_getD, List.getElem?_set, List.getD_eq_getElem?_getD]
  by_cases h : i = j
  · subst h; simp [hi]
  · simp [h]
theorem okPair_spec {n : Nat} {a : Nat × Nat} (h : okPair n a = true) : a.2 < n ∧ a.1 < 2 ^ n ∧ shr a.1 a.2 % 2 = 1 ∧ off a.1 a.2 + 2 ^ a.2 = a.1 := by
  simp only [okPair, Bool.and_eq_true] at h
  exact ⟨Nat.le_of_ble_eq_true h.1, Nat.le_of_ble_eq_true h.2.1, Nat.eq_of_beq_eq_true h.2.2.1, Nat.eq_of_beq_eq_true h.2.2.2⟩
def colSum (w : List Int) (q : Int) (L : List (Nat × Nat)) (j : Nat) : Int := ((colOf L j).map fun s => gS w q s j).sum
theorem colSum_cons (w : List Int) (q : Int) (a : Nat × Nat) (L : List (Nat × Nat)) (j : Nat) : colSum w q (a :: L) j = (if a.2 = j then gS w q a.1 j else 0) + colSum w q L j := by
  unfold colSum colOf
  by_cases h : a.2 = j
  · rw [List.filter_cons_of_pos (by simp [h])]; simp [h]
  · rw [List.filter_cons_of_neg (by simp; exact h)]; simp [h]
theorem colSum_append (w : List Int) (q : Int) (L L' : List (Nat × Nat)) (j : Nat) : colSum w q (L ++ L') j = colSum w q L j + colSum w q L' j := by
  unfold colSum colOf
  rw [List.filter_append, List.map_append, List.map_append, List.sum_append]
theorem fold_tr (w : List Int) (q : Int) : ∀ (p : List Int) (m : Nat) (b : List Int), b.length = w.length → (tr m p).all (okPair w.length) = true →
    ∀ j, ((p.foldl (stepP w q) (b, hv w m)).1).getD j 0 = b.getD j 0 + colSum w q (tr m p) j
  | [], m, b, _, _, j => by simp [tr, colSum, colOf]
  | x :: p, m, b, hb, hok, j => by
    simp only [tr, List.all_cons, Bool.and_eq_true] at hok
    obtain ⟨h1, _, h3, h4⟩ := okPair_spec hok.1
    have h4' : off (m + 2 ^ x.toNat) x.toNat = m := by have := h4; simp only at this; omega
    have hh := hv_off w (m + 2 ^ x.toNat) x.toNat h1 h3
    rw [h4'] at hh
    have hg : w.getD x.toNat 0 = w[x.toNat] := by rw [List.getD_eq_getElem?_getD, List.getElem?_eq_getElem h1]; rfl
    have hst : stepP w q (b, hv w m) x = (if swing w q (m + 2 ^ x.toNat) x.toNat then b.set x.toNat (b.getD x.toNat 0 + 1) else b, hv w (m + 2 ^ x.toNat)) := by
      unfold stepP
      simp only [hg]
      have e : hv w m + w[x.toNat] = hv w (m + 2 ^ x.toNat) := by omega
      rw [e]
      have hc : (hv w m < q ∧ q ≤ hv w (m + 2 ^ x.toNat)) ↔ swing w q (m + 2 ^ x.toNat) x.toNat := by
        unfold swing
        rw [h4']
        constructor
        · exact fun h => ⟨h3, h.2, by omega⟩
        · exact fun h => ⟨by omega, h.2.1⟩
      by_cases c : hv w m < q ∧ q ≤ hv w (m + 2 ^ x.toNat)
      · rw [if_pos c, if_pos (hc.1 c)]
      · rw [if_neg c, if_neg (fun h => c (hc.2 h))]
    simp only [List.foldl_cons, tr]
    rw [hst, colSum_cons]
    rw [fold_tr w q p (m + 2 ^ x.toNat) _ (by split <;> simp [hb]) hok.2 j]
    simp only
    by_cases c : swing w q (m + 2 ^ x.toNat) x.toNat
    · rw [if_pos c, getD_set _ _ _ _ (by rw [hb]; exact h1)]
      by_cases hj : x.toNat = j
      · subst hj
        rw [if_pos rfl, if_pos rfl, gS_pos c]; omega
      · rw [if_neg hj, if_neg hj]; omega
    · rw [if_neg c]
      by_cases hj : x.toNat = j
      · subst hj
        rw [if_pos rfl, gS_neg c]; omega
      · rw [if_neg hj]; omega
theorem fold_len (w : List Int) (q : Int) : ∀ (p : List Int) (st : List Int × Int), (p.foldl (stepP w q) st).1.length = st.1.length
  | [], st => rfl
  | x :: p, st => by
    rw [List.foldl_cons, fold_len w q p]
    unfold stepP; simp only; split <;> simp
theorem runs_tr (w : List Int) (q : Int) (h0 : hv w 0 = 0) : ∀ (R : List (List Int)) (b : List Int), b.length = w.length → (R.flatMap (tr 0)).all (okPair w.length) = true →
    (R.foldl (runP w q) b).length = w.length ∧ ∀ j, (R.foldl (runP w q) b).getD j 0 = b.getD j 0 + colSum w q (R.flatMap (tr 0)) j
  | [], b, hb, _ => ⟨hb, fun j => by simp [colSum, colOf]⟩
  | r :: R, b, hb, hok => by
    rw [List.flatMap_cons, List.all_append, Bool.and_eq_true] at hok
    have hl : (runP w q b r).length = w.length := by unfold runP; rw [fold_len]; exact hb
    obtain ⟨h1, h2⟩ := runs_tr w q h0 R (runP w q b r) hl hok.2
    refine ⟨h1, fun j => ?_⟩
    rw [List.foldl_cons, h2 j, List.flatMap_cons, colSum_append]
    have := fold_tr w q r 0 b hb hok.1 j
    rw [h0] at this
    unfold runP
    rw [this]; omega
theorem hv_zero : ∀ w : List Int, hv w 0 = 0
  | [] => rfl
  | x :: r => by simp [hv, hv_zero r]
theorem piv_eq_turns (w : List Int) (q : Int) (hw : okW w) : pivL w q = turnsL w q := by
  have hc := cnt_ok w.length hw.1
  unfold cntB at hc
  rw [Bool.and_eq_true] at hc
  obtain ⟨hok, hcnt⟩ := hc
  obtain ⟨h1, h2⟩ := runs_tr w q (hv_zero w) (allOrders w.length (iota w.length)) (List.replicate w.length 0) (by simp) hok
  apply List.ext_getElem?
  intro j
  by_cases hj : j < w.length
  · have e1 : (pivL w q)[j]? = some ((pivL w q).getD j 0) := by
      rw [List.getD_eq_getElem?_getD, List.getElem?_eq_getElem (by unfold pivL; rw [h1]; exact hj)]; rfl
    rw [e1]
    unfold turnsL
    rw [accW_get hj, if_neg (Nat.not_lt_zero _)]
    congr 1
    have h3 := h2 j
    rw [show (List.replicate w.length (0 : Int)).getD j 0 = 0 by rw [List.getD_eq_getElem?_getD]; simp [hj]] at h3
    unfold pivL
    rw [h3, Int.zero_add]
    unfold colSum
    rw [sum_count (2 ^ w.length) _ _ fun s hs => by
      unfold colOf at hs
      obtain ⟨a, ha, rfl⟩ := List.mem_map.1 hs
      exact (okPair_spec (List.all_eq_true.1 hok a (List.mem_filter.1 ha).1)).2.1]
    congr 1
    refine List.map_congr_left fun s hs => ?_
    by_cases c : swing w q s j
    · have hk := List.all_eq_true.1 (List.all_eq_true.1 hcnt j (List.mem_range.2 hj)) s hs
      rw [c.1] at hk
      simp only [Nat.beq_refl, cond_true] at hk
      have := Nat.eq_of_beq_eq_true hk
      rw [gS_pos c, gT_pos c]
      show ((List.count s (colOf (allTr w.length) j) : Nat) : Int) * 1 = _
      rw [this]; omega
    · rw [gS_neg c, gT_neg c]; simp
  · rw [List.getElem?_eq_none (by unfold pivL; rw [h1]; omega), List.getElem?_eq_none (by unfold turnsL; rw [accW_length]; omega)]
end Go.Proofs.Ytioodlkigdklhaa
