/- Widest ways: by turns of the sides between, and by all ways. Plain law. -/
import Derived.Test.YtioodlkigdklhaaWf
namespace Go.Proofs.Ytioodlkigdklhaa
open Go FM
set_option linter.all false
inductive Pth (R : Nat → Nat → Prop) : Nat → List Nat → Nat → Prop
  | nil {a} : Pth R a [] a
  | cons {a c b l} (h : R a c) (r : Pth R c l b) : Pth R a (c :: l) b
theorem Pth.append {R : Nat → Nat → Prop} {a b c : Nat} {l l' : List Nat} (h : Pth R a l b) (h' : Pth R b l' c) : Pth R a (l ++ l') c := by
  induction h with
  | nil => exact h'
  | cons h r ih => exact .cons h (ih h')
theorem Pth.mem {R : Nat → Nat → Prop} {a b : Nat} {l : List Nat} (h : Pth R a l b) : b ∈ a :: l := by
  induction h with
  | nil => exact List.mem_cons_self ..
  | cons h r ih => exact List.mem_cons_of_mem _ ih
theorem Pth.from {R : Nat → Nat → Prop} {a b c : Nat} {l : List Nat} (h : Pth R c l b) (ha : a ∈ c :: l) (hn : (c :: l).Nodup) : ∃ l', Pth R a l' b ∧ (a :: l').Nodup := by
  induction h with
  | nil => rw [List.mem_singleton.1 ha]; exact ⟨[], .nil, by simp⟩
  | @cons a' c' b' l' h r ih =>
    rcases List.mem_cons.1 ha with rfl | ha
    · exact ⟨_, .cons h r, hn⟩
    · exact ih ha (List.nodup_cons.1 hn).2
theorem Pth.simple {R : Nat → Nat → Prop} {a b : Nat} {l : List Nat} (h : Pth R a l b) : ∃ l', Pth R a l' b ∧ (a :: l').Nodup := by
  induction h with
  | nil => exact ⟨[], .nil, by simp⟩
  | @cons a c b l h r ih =>
    obtain ⟨l', h1, h2⟩ := ih
    by_cases ha : a ∈ c :: l'
    · exact h1.from ha h2
    · exact ⟨_, .cons h h1, List.nodup_cons.2 ⟨ha, h2⟩⟩
def Edge (n : Nat) (f : Nat → Nat → Int) (t : Int) (a c : Nat) : Prop := c < n ∧ t ≤ d0 f a c
theorem d0_ge {f : Nat → Nat → Int} {t : Int} (ht : 1 ≤ t) {a c : Nat} : t ≤ d0 f a c ↔ f c a < f a c ∧ t ≤ f a c := by
  unfold d0; split <;> omega
theorem fw_succ {f : Nat → Nat → Int} {k a b : Nat} : fw f (k + 1) a b = if a ≠ b ∧ a ≠ k ∧ b ≠ k then max (fw f k a b) (min (fw f k a k) (fw f k k b)) else fw f k a b := rfl
theorem fw_diag {f : Nat → Nat → Int} {a : Nat} : ∀ k, fw f k a a = 0
  | 0 => by simp [fw, d0]
  | k + 1 => by rw [fw_succ, if_neg (by simp)]; exact fw_diag k
theorem fw_ge {f : Nat → Nat → Int} {t : Int} {k a b : Nat} : t ≤ fw f (k + 1) a b ↔ t ≤ fw f k a b ∨ (a ≠ b ∧ a ≠ k ∧ b ≠ k ∧ t ≤ fw f k a k ∧ t ≤ fw f k k b) := by
  rw [fw_succ]
  split <;> omega
theorem fw_mono {f : Nat → Nat → Int} {a b : Nat} : ∀ k, fw f 0 a b ≤ fw f k a b
  | 0 => Int.le_refl _
  | k + 1 => by
    have ih := fw_mono (f := f) (a := a) (b := b) k
    rw [fw_succ]; split <;> omega
theorem fw_trans {f : Nat → Nat → Int} {t : Int} (ht : 1 ≤ t) : ∀ (k c a b : Nat), c < k → t ≤ fw f k a c → t ≤ fw f k c b → a ≠ b → t ≤ fw f k a b
  | 0, c, a, b, h, _, _, _ => absurd h (Nat.not_lt_zero _)
  | k + 1, c, a, b, h, h1, h2, hab => by
    have ih := fw_trans (f := f) ht k
    have hd : ∀ x, ¬ t ≤ fw f k x x := fun x => by rw [fw_diag]; omega
    rw [fw_ge] at h1 h2 ⊢
    by_cases hck : c = k
    · subst hck
      have e1 : t ≤ fw f c a c := by rcases h1 with h | h <;> first | exact h | (exact absurd rfl h.2.2.1)
      have e2 : t ≤ fw f c c b := by rcases h2 with h | h <;> first | exact h | (exact absurd rfl h.2.1)
      refine .inr ⟨hab, fun e => ?_, fun e => ?_, e1, e2⟩
      · subst e; exact hd _ e1
      · subst e; exact hd _ e2
    · have hc : c < k := by omega
      rcases h1 with h1 | ⟨_, a2, a3, a4, a5⟩
      · rcases h2 with h2 | ⟨_, b2, b3, b4, b5⟩
        · exact .inl (ih c a b hc h1 h2 hab)
        · by_cases hak : a = k
          · subst hak; exact .inl b5
          · exact .inr ⟨hab, hak, b3, ih c a k hc h1 b4 hak, b5⟩
      · rcases h2 with h2 | ⟨_, b2, b3, b4, b5⟩
        · by_cases hbk : b = k
          · subst hbk; exact .inl a4
          · exact .inr ⟨hab, a2, hbk, a4, ih c k b hc a5 h2 (fun e => hbk e.symm)⟩
        · exact .inr ⟨hab, a2, b3, a4, b5⟩
theorem fw_path {n : Nat} {f : Nat → Nat → Int} {t : Int} : ∀ (k a b : Nat), k ≤ n → b < n → t ≤ fw f k a b → ∃ l, Pth (Edge n f t) a l b
  | 0, a, b, _, hb, h => ⟨[b], .cons ⟨hb, h⟩ .nil⟩
  | k + 1, a, b, hk, hb, h => by
    rcases fw_ge.1 h with h | ⟨_, _, _, h1, h2⟩
    · exact fw_path (n := n) k a b (by omega) hb h
    · obtain ⟨l, p⟩ := fw_path (n := n) k a k (by omega) (by omega) h1
      obtain ⟨l', p'⟩ := fw_path (n := n) k k b (by omega) hb h2
      exact ⟨_, p.append p'⟩
theorem path_fw {n : Nat} {f : Nat → Nat → Int} {t : Int} (ht : 1 ≤ t) {a b : Nat} {l : List Nat} (h : Pth (Edge n f t) a l b) : a ≠ b → t ≤ fw f n a b := by
  induction h with
  | nil => exact fun h => absurd rfl h
  | @cons a c b l h r ih =>
    intro hab
    have h1 : t ≤ fw f n a c := Int.le_trans h.2 (fw_mono n)
    by_cases hcb : c = b
    · subst hcb; exact h1
    · exact fw_trans ht n c a b h.1 h1 (ih hcb) hab
theorem wayTo_le {n : Nat} {f : Nat → Nat → Int} {fuel x y seen : Nat} {wide t : Int} (ht : 1 ≤ t) : ∀ m, t ≤ wayTo n f fuel x y seen wide m → ∃ k, k < m ∧ shr seen k % 2 = 0 ∧ f k x < f x k ∧ t ≤ way n f fuel k y (seen ||| 2 ^ k) (min wide (f x k))
  | 0, h => by simp [wayTo] at h; omega
  | m + 1, h => by
    rw [wayTo_succ] at h
    by_cases hc : shr seen m % 2 = 0 ∧ f m x < f x m
    · rw [if_pos hc] at h
      by_cases h1 : t ≤ wayTo n f fuel x y seen wide m
      · obtain ⟨k, hk, h⟩ := wayTo_le ht m h1
        exact ⟨k, by omega, h⟩
      · exact ⟨m, by omega, hc.1, hc.2, by omega⟩
    · rw [if_neg hc] at h
      obtain ⟨k, hk, h⟩ := wayTo_le ht m h
      exact ⟨k, by omega, h⟩
theorem wayTo_ge {n : Nat} {f : Nat → Nat → Int} {fuel x y seen k : Nat} {wide : Int} (h1 : shr seen k % 2 = 0) (h2 : f k x < f x k) : ∀ m, k < m → way n f fuel k y (seen ||| 2 ^ k) (min wide (f x k)) ≤ wayTo n f fuel x y seen wide m
  | 0, h => absurd h (Nat.not_lt_zero _)
  | m + 1, h => by
    rw [wayTo_succ]
    by_cases hkm : k = m
    · subst hkm; rw [if_pos ⟨h1, h2⟩]; omega
    · have := wayTo_ge (n := n) (fuel := fuel) (y := y) (wide := wide) h1 h2 m (by omega)
      split <;> omega
theorem wayTo_pos {n : Nat} {f : Nat → Nat → Int} {fuel x y seen : Nat} {wide : Int} : ∀ m, 0 ≤ wayTo n f fuel x y seen wide m
  | 0 => by simp [wayTo]
  | m + 1 => by
    have := wayTo_pos (n := n) (f := f) (fuel := fuel) (x := x) (y := y) (seen := seen) (wide := wide) m
    rw [wayTo_succ]; split <;> omega
theorem way_ne {n : Nat} {f : Nat → Nat → Int} {fuel x y seen : Nat} {wide : Int} (h : x ≠ y) : way n f (fuel + 1) x y seen wide = wayTo n f fuel x y seen wide n := by unfold way; rw [if_neg h]; rfl
theorem way_eq {n : Nat} {f : Nat → Nat → Int} {fuel x seen : Nat} {wide : Int} : way n f (fuel + 1) x x seen wide = wide := by unfold way; rw [if_pos rfl]
theorem way_path {n : Nat} {f : Nat → Nat → Int} {t : Int} (ht : 1 ≤ t) : ∀ (fuel x y seen : Nat) (wide : Int), unseen n seen < fuel → t ≤ way n f fuel x y seen wide → t ≤ wide ∧ ∃ l, Pth (Edge n f t) x l y
  | 0, x, y, seen, wide, h, _ => absurd h (Nat.not_lt_zero _)
  | fuel + 1, x, y, seen, wide, hu, h => by
    by_cases hxy : x = y
    · subst hxy; rw [way_eq] at h; exact ⟨h, [], .nil⟩
    · rw [way_ne hxy] at h
      obtain ⟨k, hk, h1, h2, h3⟩ := wayTo_le ht n h
      obtain ⟨h4, l, p⟩ := way_path ht fuel k y _ _ (by have := unseen_lt hk h1; omega) h3
      exact ⟨by omega, _, .cons ⟨hk, (d0_ge ht).2 ⟨h2, by omega⟩⟩ p⟩
theorem path_way {n : Nat} {f : Nat → Nat → Int} {t : Int} (ht : 1 ≤ t) {x y : Nat} {l : List Nat} (h : Pth (Edge n f t) x l y) : ∀ (fuel seen : Nat) (wide : Int), (x :: l).Nodup → (∀ c ∈ l, seen.testBit c = false) → unseen n seen < fuel → t ≤ wide → t ≤ way n f fuel x y seen wide := by
  induction h with
  | nil =>
    intro fuel seen wide _ _ hu hw
    cases fuel with
    | zero => exact absurd hu (Nat.not_lt_zero _)
    | succ fuel => rw [way_eq]; exact hw
  | @cons a c b l h r ih =>
    intro fuel seen wide hn hs hu hw
    cases fuel with
    | zero => exact absurd hu (Nat.not_lt_zero _)
    | succ fuel =>
      have hab : a ≠ b := fun e => (List.nodup_cons.1 hn).1 (e ▸ r.mem)
      rw [way_ne hab]
      have hs1 := (shr_testBit seen c).2 (hs c (List.mem_cons_self ..))
      obtain ⟨h1, h2⟩ := (d0_ge ht).1 h.2
      refine Int.le_trans ?_ (wayTo_ge hs1 h1 n h.1)
      have hn2 := (List.nodup_cons.1 hn).2
      refine ih fuel _ _ hn2 (fun c' hc' => ?_) (by have := unseen_lt h.1 hs1; omega) (by omega)
      rw [Nat.testBit_or, hs c' (List.mem_cons_of_mem _ hc'), Nat.testBit_two_pow]
      have : c ≠ c' := fun e => (List.nodup_cons.1 hn2).1 (e ▸ hc')
      simp [this]
theorem fw_pos {n : Nat} {f : Nat → Nat → Int} (hd : DTab n f) {a b : Nat} (ha : a < n) (hb : b < n) (k : Nat) : 0 ≤ fw f k a b := by
  have h1 := fw_mono (f := f) (a := a) (b := b) k
  have h2 := hd.range b a hb ha
  have : 0 ≤ fw f 0 a b := by unfold fw d0; split <;> omega
  omega
theorem fw_eq_way {n : Nat} {f : Nat → Nat → Int} (hd : DTab n f) {a b : Nat} (ha : a < n) (hb : b < n) : fw f n a b = wayE n f a b := by
  unfold wayE
  by_cases hab : a = b
  · subst hab; rw [if_pos rfl, fw_diag]
  · rw [if_neg hab]
    have hu : unseen n (2 ^ a) < n + 1 := Nat.lt_succ_of_le unseen_le
    have p1 := fw_pos hd ha hb n
    have p2 : 0 ≤ way n f (n + 1) a b (2 ^ a) 1000 := by rw [way_ne hab]; exact wayTo_pos n
    have key : ∀ t : Int, 1 ≤ t → (t ≤ fw f n a b ↔ t ≤ way n f (n + 1) a b (2 ^ a) 1000) := fun t ht => by
      constructor
      · intro h
        obtain ⟨l, p⟩ := fw_path n a b (Nat.le_refl _) hb h
        obtain ⟨l', p', hn⟩ := p.simple
        refine path_way ht p' (n + 1) (2 ^ a) 1000 hn (fun c hc => ?_) hu ?_
        · rw [Nat.testBit_two_pow]
          have : a ≠ c := fun e => (List.nodup_cons.1 hn).1 (e ▸ hc)
          simp [this]
        · cases p' with
          | nil => exact absurd rfl hab
          | @cons _ c _ l h r =>
            have h1 := ((d0_ge ht).1 h.2).2
            have h2 := (hd.range a c ha h.1).2
            omega
      · intro h
        obtain ⟨_, l, p⟩ := way_path ht (n + 1) a b _ _ hu h
        exact path_fw ht p hab
    generalize fw f n a b = A at *
    generalize way n f (n + 1) a b (2 ^ a) 1000 = B at *
    have k1 := key A
    have k2 := key B
    omega
theorem pathsOfF_spec (n : Nat) (f : Nat → Nat → Int) (hd : DTab n f) : FnSpec Sy.P 42 [.sl false 1 ((mtx n n f).map rwS)] [.sl false 1 ((mtx n n f).map rwS)] (.sl true 1 ((mtx n n (fw f n)).map rwO)) := by
  rw [mtx_congr (fun a b ha hb => fw_eq_way hd ha hb)]
  exact pathsOf_spec n f hd
end Go.Proofs.Ytioodlkigdklhaa
