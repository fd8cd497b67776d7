/- The least set that beats all others is that of those who reach all. Plain law. -/
import Derived.Test.YtioodlkigdklhaaDx
namespace Go.Proofs.Ytioodlkigdklhaa
open Go FM
set_option linter.all false
theorem rc_one {f : Nat → Nat → Int} {k a b : Nat} : rc f (k + 1) a b = 1 ↔ rc f k a b = 1 ∨ (rc f k a k = 1 ∧ rc f k k b = 1) := by
  rw [rc_succ]
  by_cases h : rc f k a k = 1 ∧ rc f k k b = 1
  · rw [if_pos h]; simp [h]
  · rw [if_neg h]; simp [h]
theorem rc_mono {f : Nat → Nat → Int} {a b : Nat} (h : rc f 0 a b = 1) : ∀ k, rc f k a b = 1
  | 0 => h
  | k + 1 => rc_one.2 (.inl (rc_mono h k))
theorem rc_trans {f : Nat → Nat → Int} : ∀ (k c a b : Nat), c < k → rc f k a c = 1 → rc f k c b = 1 → rc f k a b = 1
  | 0, c, a, b, h, _, _ => absurd h (Nat.not_lt_zero _)
  | k + 1, c, a, b, h, h1, h2 => by
    have ih := rc_trans (f := f) k
    rw [rc_one] at h1 h2 ⊢
    by_cases hck : c = k
    · subst hck
      exact .inr ⟨by rcases h1 with h | h; exact h; exact h.1, by rcases h2 with h | h; exact h; exact h.2⟩
    · have hc : c < k := by omega
      rcases h1 with h1 | ⟨a1, a2⟩
      · rcases h2 with h2 | ⟨b1, b2⟩
        · exact .inl (ih c a b hc h1 h2)
        · exact .inr ⟨ih c a k hc h1 b1, b2⟩
      · rcases h2 with h2 | ⟨b1, b2⟩
        · exact .inr ⟨a1, ih c k b hc a2 h2⟩
        · exact .inr ⟨a1, b2⟩
theorem sumTo_all {F : Nat → Nat → Int} (h : ∀ a b, F a b = 0 ∨ F a b = 1) {x : Nat} : ∀ y : Nat, sumTo F x y = y ↔ ∀ b, b < y → F x b = 1
  | 0 => by simp [sumTo]
  | y + 1 => by
    have ih := sumTo_all h (x := x) y
    have hb := sumTo_bound h (x := x) y
    have h1 := h x y
    unfold sumTo
    constructor
    · intro e b hb'
      by_cases hby : b = y
      · subst hby; omega
      · exact ih.1 (by omega) b (by omega)
    · intro e
      have h2 := ih.2 fun b hb' => e b (by omega)
      have := e y (by omega)
      omega
theorem isTop_iff {f : Nat → Nat → Int} {n x : Nat} : isTop f n x = true ↔ ∀ b, b < n → rc f n x b = 1 := by
  unfold isTop; rw [decide_eq_true_iff]; exact sumTo_all (rc_01 n) n
theorem r0_one {f : Nat → Nat → Int} {a b : Nat} : rc f 0 a b = 1 ↔ a = b ∨ f b a ≤ f a b := by
  unfold rc r0; split <;> simp [*]
theorem top_dom {f : Nat → Nat → Int} {n x y : Nat} (hx : x < n) (h1 : isTop f n x = true) (h2 : isTop f n y = false) : f y x < f x y := by
  refine Int.not_le.1 fun h => ?_
  have e := rc_mono (r0_one.2 (.inr h)) n
  have h1 := isTop_iff.1 h1
  have : isTop f n y = true := isTop_iff.2 fun b hb => rc_trans n x y b hx e (h1 b hb)
  rw [h2] at this; cases this
theorem top_some {f : Nat → Nat → Int} {n : Nat} : ∀ m, 1 ≤ m → m ≤ n → ∃ x, x < m ∧ ∀ b, b < m → rc f n x b = 1
  | 0, h, _ => absurd h (by omega)
  | 1, _, _ => ⟨0, by omega, fun b hb => by
      obtain rfl : b = 0 := by omega
      exact rc_mono (r0_one.2 (.inl rfl)) n⟩
  | m + 2, _, hm => by
    obtain ⟨x, hx, h⟩ := top_some (f := f) (n := n) (m + 1) (by omega) (by omega)
    by_cases hc : f (m + 1) x ≤ f x (m + 1)
    · refine ⟨x, by omega, fun b hb => ?_⟩
      by_cases hbm : b = m + 1
      · subst hbm; exact rc_mono (r0_one.2 (.inr hc)) n
      · exact h b (by omega)
    · have e := rc_mono (r0_one.2 (.inr (Int.le_of_lt (Int.not_le.1 hc)))) n
      refine ⟨m + 1, by omega, fun b hb => ?_⟩
      by_cases hbm : b = m + 1
      · subst hbm; exact rc_mono (r0_one.2 (.inl rfl)) n
      · exact rc_trans n x (m + 1) b (by omega) e (h b (by omega))
theorem dom1_iff {f : Nat → Nat → Int} {s a y : Nat} : dom1 f s a y = true ↔ ∀ b, b < y → s.testBit b = false → f b a < f a b := by
  unfold dom1
  simp only [List.all_eq_true, List.mem_range, Bool.or_eq_true, decide_eq_true_eq]
  constructor
  · intro h b hb hs; rcases h b hb with h | h; rw [hs] at h; cases h; exact h
  · intro h b hb; cases hs : s.testBit b; exact .inr (h b hb hs); exact .inl rfl
theorem domTo_iff {f : Nat → Nat → Int} {n s : Nat} : domTo f n s n = true ↔ ∀ a b, a < n → b < n → s.testBit a = true → s.testBit b = false → f b a < f a b := by
  unfold domTo
  simp only [List.all_eq_true, List.mem_range, Bool.or_eq_true, Bool.not_eq_true', dom1_iff]
  constructor
  · intro h a b ha hb hsa hsb; rcases h a ha with h | h; rw [hsa] at h; cases h; exact h b hb hsb
  · intro h a ha; cases hs : s.testBit a; exact .inl rfl; exact .inr fun b hb hsb => h a b ha hb hs hsb
theorem dom_no_way {f : Nat → Nat → Int} {n s : Nat} (hd : domTo f n s n = true) : ∀ k, k ≤ n → ∀ a b, a < n → b < n → s.testBit a = false → s.testBit b = true → rc f k a b ≠ 1
  | 0, _, a, b, ha, hb, hsa, hsb, h => by
    rcases r0_one.1 h with rfl | h
    · rw [hsa] at hsb; cases hsb
    · have := domTo_iff.1 hd b a hb ha hsb hsa; omega
  | k + 1, hk, a, b, ha, hb, hsa, hsb, h => by
    have ih := dom_no_way hd k (by omega)
    rcases rc_one.1 h with h | ⟨h1, h2⟩
    · exact ih a b ha hb hsa hsb h
    · cases hsk : s.testBit k with
      | true => exact ih a k ha (by omega) hsa hsk h1
      | false => exact ih k b (by omega) hb hsk hsb h2
theorem bits_lt {n s : Nat} (hs : s < 2 ^ n) (h0 : s ≠ 0) : ∃ i, i < n ∧ s.testBit i = true := by
  obtain ⟨i, hi⟩ := Nat.exists_testBit_of_ne_zero h0
  refine ⟨i, ?_, hi⟩
  rcases Nat.lt_or_ge i n with h | h
  · exact h
  · exfalso
    rw [Nat.testBit_lt_two_pow (Nat.lt_of_lt_of_le hs (Nat.pow_le_pow_right (by decide) h))] at hi
    cases hi
theorem top_in_dom {f : Nat → Nat → Int} {n s x : Nat} (hs : s < 2 ^ n) (h0 : s ≠ 0) (hd : domTo f n s n = true) (hx : x < n) (ht : isTop f n x = true) : s.testBit x = true := by
  obtain ⟨i, hi, hsi⟩ := bits_lt hs h0
  cases hsx : s.testBit x with
  | true => rfl
  | false => exact absurd (isTop_iff.1 ht i hi) (dom_no_way hd n (Nat.le_refl _) x i hx hi hsx hsi)
/-- A set as a number. -/
theorem set_num (p : Nat → Bool) : ∀ n, ∃ s, s < 2 ^ n ∧ ∀ x, x < n → s.testBit x = p x
  | 0 => ⟨0, by decide, fun x h => absurd h (Nat.not_lt_zero _)⟩
  | n + 1 => by
    obtain ⟨s, h1, h2⟩ := set_num p n
    cases hp : p n with
    | false => exact ⟨s, by rw [Nat.pow_succ]; omega, fun x hx => by
        by_cases hxn : x = n
        · subst hxn; rw [hp]; exact Nat.testBit_lt_two_pow h1
        · exact h2 x (by omega)⟩
    | true =>
      refine ⟨2 ^ n + s, by rw [Nat.pow_succ]; omega, fun x hx => ?_⟩
      by_cases hxn : x = n
      · subst hxn; rw [hp, Nat.testBit_two_pow_add_eq, Nat.testBit_lt_two_pow h1]; rfl
      · rw [Nat.testBit_two_pow_add_gt (by omega)]; exact h2 x (by omega)
theorem topsL_len {n : Nat} {p : Nat → Bool} : (topsL n p).length = (List.range n).countP p := by
  unfold topsL; rw [List.length_map, List.countP_eq_length_filter]
theorem topsL_congr {n : Nat} {p q : Nat → Bool} (h : ∀ x, x < n → p x = q x) : topsL n p = topsL n q := by
  unfold topsL
  congr 1
  exact List.filter_congr fun x hx => h x (List.mem_range.1 hx)
theorem cnt_lt' {p q : Nat → Bool} : ∀ {l : List Nat}, (∀ a ∈ l, p a = true → q a = true) → ∀ {k : Nat}, k ∈ l → p k = false → q k = true → l.countP p < l.countP q
  | [], _, k, h, _, _ => by cases h
  | a :: l, hpq, k, h, hk, hq => by
    rw [List.countP_cons, List.countP_cons]
    have hm : l.countP p ≤ l.countP q := List.countP_mono_left fun x hx => hpq x (List.mem_cons_of_mem _ hx)
    by_cases hak : a = k
    · subst hak; rw [hk, hq]; simp; omega
    · have ih := cnt_lt' (l := l) (fun x hx => hpq x (List.mem_cons_of_mem _ hx)) (k := k) (by rcases List.mem_cons.1 h with e | e; exact absurd e.symm hak; exact e) hk hq
      have := hpq a (List.mem_cons_self ..)
      cases h1 : p a
      · simp; omega
      · rw [this h1]; simp; omega
theorem bestAt_step {f : Nat → Nat → Int} {n s : Nat} (h0 : s ≠ 0) : bestAt f n (s + 1) = match bestAt f n s with
      | none => if domTo f n s n = true then some (setL n s) else none
      | some l => if domTo f n s n = true ∧ (setL n s).length < l.length then some (setL n s) else some l := by
  rw [bestAt, if_neg h0]; rfl
theorem bestAt_top (f : Nat → Nat → Int) (n : Nat) (hn : 1 ≤ n) : bestAt f n (2 ^ n) = some (topsL n (isTop f n)) := by
  obtain ⟨t, ht, htb⟩ := set_num (isTop f n) n
  obtain ⟨x0, hx0, h0⟩ := top_some (f := f) (n := n) n hn (Nat.le_refl _)
  have hx0t : isTop f n x0 = true := isTop_iff.2 h0
  have ht0 : t ≠ 0 := fun e => by have := htb x0 hx0; rw [e, hx0t] at this; simp at this
  have hdt : domTo f n t n = true := domTo_iff.2 fun a b ha hb hsa hsb => top_dom ha (by rw [← htb a ha]; exact hsa) (by rw [← htb b hb]; exact hsb)
  have hsetL : setL n t = topsL n (isTop f n) := topsL_congr htb
  have hsub : ∀ s, s < 2 ^ n → s ≠ 0 → domTo f n s n = true → s ≠ t → (topsL n (isTop f n)).length < (setL n s).length := fun s hs hs0 hds hst => by
    have hin : ∀ a ∈ List.range n, isTop f n a = true → s.testBit a = true := fun a ha hta => top_in_dom hs hs0 hds (List.mem_range.1 ha) hta
    have : ∃ k, k < n ∧ isTop f n k = false ∧ s.testBit k = true := by
      refine Classical.byContradiction fun hno => hst (Nat.eq_of_testBit_eq fun i => ?_)
      by_cases hi : i < n
      · rw [htb i hi]
        cases hp : isTop f n i with
        | true => exact hin i (List.mem_range.2 hi) hp
        | false =>
          cases hsi : s.testBit i with
          | false => rfl
          | true => exact absurd ⟨i, hi, hp, hsi⟩ hno
      · rw [Nat.testBit_lt_two_pow (Nat.lt_of_lt_of_le hs (Nat.pow_le_pow_right (by decide) (by omega))), Nat.testBit_lt_two_pow (Nat.lt_of_lt_of_le ht (Nat.pow_le_pow_right (by decide) (by omega)))]
    obtain ⟨k, hk, h1, h2⟩ := this
    rw [setL, topsL_len, topsL_len]
    exact cnt_lt' hin (List.mem_range.2 hk) h1 h2
  have key : ∀ s, s ≤ 2 ^ n → (t < s → bestAt f n s = some (topsL n (isTop f n))) ∧ (s ≤ t → ∀ l, bestAt f n s = some l → (topsL n (isTop f n)).length < l.length) := by
    intro s
    induction s with
    | zero => exact fun _ => ⟨fun h => absurd h (Nat.not_lt_zero _), fun _ l h => by cases h⟩
    | succ s ih =>
      intro hs
      obtain ⟨i1, i2⟩ := ih (by omega)
      by_cases hs0 : s = 0
      · subst hs0
        exact ⟨fun h => absurd h (by omega), fun _ l h => by simp [bestAt] at h⟩
      rw [bestAt_step hs0]
      rcases Nat.lt_trichotomy s t with hlt | rfl | hgt
      · refine ⟨fun h => absurd h (by omega), fun _ l h => ?_⟩
        have hset : domTo f n s n = true → (topsL n (isTop f n)).length < (setL n s).length := fun hds => hsub s (by omega) hs0 hds (by omega)
        cases hb : bestAt f n s with
        | none =>
          rw [hb] at h
          simp only at h
          split at h
          · rename_i hds; injection h with h; subst h; exact hset hds
          · cases h
        | some l' =>
          rw [hb] at h
          simp only at h
          split at h
          · rename_i hds; injection h with h; subst h; exact hset hds.1
          · injection h with h; subst h; exact i2 (by omega) _ hb
      · refine ⟨fun _ => ?_, fun h => absurd h (by omega)⟩
        cases hb : bestAt f n s with
        | none => simp only [hdt, if_true, hsetL]
        | some l' =>
          have := i2 (Nat.le_refl _) _ hb
          simp only [hdt, hsetL, this, and_self, if_true]
      · refine ⟨fun _ => ?_, fun h => absurd h (by omega)⟩
        rw [i1 hgt]
        simp only
        rw [if_neg]
        rintro ⟨h1, h2⟩
        have := hsub s (by omega) hs0 h1 (by omega)
        omega
  exact (key _ (Nat.le_refl _)).1 ht
theorem topOfT_spec (n : Nat) (f : Nat → Nat → Int) (hd : DTab n f) : FnSpec Sy.P 79 [.sl false 1 ((mtx n n f).map rwS)] [.sl false 1 ((mtx n n f).map rwS)] (.sl true 1 ((topsL n (isTop f n)).map .int)) := topOf_spec n f hd _ (bestAt_top f n hd.pos)
end Go.Proofs.Ytioodlkigdklhaa
