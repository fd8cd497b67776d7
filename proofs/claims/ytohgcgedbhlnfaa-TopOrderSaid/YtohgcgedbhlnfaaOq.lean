/- A table of duels that is an order: who wins. No program in sight. -/
import Derived.Test.YtohgcgedbhlnfaaDw
import Derived.Test.YtohgcgedbhlnfaaRu
namespace Go.Proofs.Ytohgcgedbhlnfaa
open Go FM
set_option maxRecDepth 10000
set_option linter.all false
/-- An order: r is each side's place; h is the first. -/
structure Ordd (n : Nat) (r : Nat → Int) (f : Nat → Nat → Int) (C : Int) (h : Nat) : Prop where
  hn : h < n
  c0 : 0 ≤ C
  self : ∀ a, a < n → f a a = 0
  ord : ∀ a b, a < n → b < n → r a < r b → f a b = C + 1 ∧ f b a = C - 1
  inj : ∀ a b, a < n → b < n → r a = r b → a = b
  first : ∀ a, a < n → a ≠ h → r h < r a
variable {n : Nat} {r : Nat → Int} {f : Nat → Nat → Int} {C : Int} {h : Nat}
theorem Ordd.cmp (H : Ordd n r f C h) {a b : Nat} (ha : a < n) (hb : b < n) : (a = b ∧ r a = r b) ∨ (a ≠ b ∧ r a < r b) ∨ (a ≠ b ∧ r b < r a) := by
  rcases Int.lt_trichotomy (r a) (r b) with c | c | c
  · exact .inr (.inl ⟨fun e => by subst e; omega, c⟩)
  · exact .inl ⟨H.inj a b ha hb c, c⟩
  · exact .inr (.inr ⟨fun e => by subst e; omega, c⟩)
theorem Ordd.d0_eq (H : Ordd n r f C h) {a b : Nat} (ha : a < n) (hb : b < n) : d0 f a b = if r a < r b then C + 1 else 0 := by
  unfold d0
  rcases H.cmp ha hb with ⟨rfl, c⟩ | ⟨_, c⟩ | ⟨_, c⟩
  · rw [if_neg (by omega), if_neg (by omega)]
  · obtain ⟨e1, e2⟩ := H.ord a b ha hb c
    rw [if_pos (by omega), if_pos c]; exact e1
  · obtain ⟨e1, e2⟩ := H.ord b a hb ha c
    rw [if_neg (by omega), if_neg (by omega)]
theorem Ordd.fw_eq (H : Ordd n r f C h) : ∀ k, k ≤ n → ∀ a b, a < n → b < n → fw f k a b = if r a < r b then C + 1 else 0
  | 0, _, a, b, ha, hb => H.d0_eq ha hb
  | k + 1, hk, a, b, ha, hb => by
    have ih := H.fw_eq k (by omega)
    have e1 := ih a b ha hb
    have e2 := ih a k ha (by omega)
    have e3 := ih k b (by omega) hb
    have := H.c0
    show (if a ≠ b ∧ a ≠ k ∧ b ≠ k then max (fw f k a b) (min (fw f k a k) (fw f k k b)) else fw f k a b) = _
    split
    · rw [e1, e2, e3]
      repeat' split
      all_goals omega
    · exact e1
theorem topsL_one {p : Nat → Bool} : ∀ {n : Nat}, h < n → (∀ x, x < n → (p x = true ↔ x = h)) → topsL n p = [(h : Int)]
  | 0, hn, _ => by omega
  | n + 1, hn, hp => by
    have none : ∀ m, m ≤ h → topsL m p = [] := fun m => by
      induction m with
      | zero => intro _; rfl
      | succ m ih =>
        intro hm
        have : p m = false := by
          cases hb : p m with
          | false => rfl
          | true => have := (hp m (by omega)).1 hb; omega
        rw [← topsL_no this, ih (by omega)]
    by_cases e : n = h
    · subst e
      rw [← topsL_yes ((hp n (by omega)).2 rfl), none n (Nat.le_refl _)]; rfl
    · have : p n = false := by
        cases hb : p n with
        | false => rfl
        | true => have := (hp n (by omega)).1 hb; omega
      rw [← topsL_no this]
      exact topsL_one (by omega) fun x hx => hp x (by omega)
theorem Ordd.widest (H : Ordd n r f C h) : topsL n (fun x => allTo (fw f n) x n) = [(h : Int)] := by
  refine topsL_one H.hn fun x hx => ?_
  have hf := H.fw_eq n (Nat.le_refl _)
  have := H.c0
  unfold allTo
  rw [List.all_eq_true]
  constructor
  · intro ha
    by_cases e : x = h
    · exact e
    · have h1 := of_decide_eq_true (ha h (List.mem_range.2 H.hn))
      have h2 := H.first x hx e
      rw [hf h x H.hn hx, hf x h hx H.hn, if_pos h2, if_neg (by omega)] at h1
      omega
  · rintro rfl b hb
    have hb' := List.mem_range.1 hb
    refine decide_eq_true ?_
    rw [hf b x hb' hx, hf x b hx hb']
    by_cases e : b = x
    · subst e; omega
    · have h2 := H.first b hb' e
      rw [if_neg (by omega), if_pos h2]; omega
theorem Ordd.r0_eq (H : Ordd n r f C h) {a b : Nat} (ha : a < n) (hb : b < n) : r0 f a b = if r a ≤ r b then 1 else 0 := by
  unfold r0
  rcases H.cmp ha hb with ⟨rfl, c⟩ | ⟨hne, c⟩ | ⟨hne, c⟩
  · rw [if_pos (.inl rfl), if_pos (by omega)]
  · obtain ⟨e1, e2⟩ := H.ord a b ha hb c
    rw [if_pos (.inr (by omega)), if_pos (by omega)]
  · obtain ⟨e1, e2⟩ := H.ord b a hb ha c
    rw [if_neg (fun o => by rcases o with o | o <;> omega), if_neg (by omega)]
theorem Ordd.rc_eq (H : Ordd n r f C h) : ∀ k, k ≤ n → ∀ a b, a < n → b < n → rc f k a b = if r a ≤ r b then 1 else 0
  | 0, _, a, b, ha, hb => H.r0_eq ha hb
  | k + 1, hk, a, b, ha, hb => by
    have ih := H.rc_eq k (by omega)
    have e1 := ih a b ha hb
    have e2 := ih a k ha (by omega)
    have e3 := ih k b (by omega) hb
    show (if rc f k a k = 1 ∧ rc f k k b = 1 then 1 else rc f k a b) = _
    rw [e1, e2, e3]
    repeat' split
    all_goals first | omega | (exfalso; simp_all; omega)
theorem sumTo_full {F : Nat → Nat → Int} {x : Nat} (h01 : ∀ a b, F a b = 0 ∨ F a b = 1) : ∀ y : Nat, (sumTo F x y = y ↔ ∀ b, b < y → F x b = 1)
  | 0 => by simp [sumTo]
  | y + 1 => by
    have ih := sumTo_full h01 (x := x) y
    have hb := sumTo_bound h01 (x := x) y
    have h1 := h01 x y
    unfold sumTo
    constructor
    · intro e b hb'
      by_cases c : b = y
      · subst c; omega
      · exact ih.1 (by omega) b (by omega)
    · intro hall
      have := ih.2 fun b hb' => hall b (by omega)
      have := hall y (by omega)
      omega
theorem Ordd.tops (H : Ordd n r f C h) : topsL n (isTop f n) = [(h : Int)] := by
  refine topsL_one H.hn fun x hx => ?_
  have hf := H.rc_eq n (Nat.le_refl _)
  unfold isTop
  rw [decide_eq_true_iff, sumTo_full (rc_01 n)]
  constructor
  · intro ha
    by_cases e : x = h
    · exact e
    · have h1 := ha h H.hn
      have h2 := H.first x hx e
      rw [hf x h hx H.hn, if_neg (by omega)] at h1
      omega
  · rintro rfl b hb
    rw [hf x b hx hb]
    by_cases e : b = x
    · subst e; rw [if_pos (Int.le_refl _)]
    · have h2 := H.first b hb e
      rw [if_pos (by omega)]
theorem Ordd.wnS_eq (H : Ordd n r f C h) {a b : Nat} (ha : a < n) (hb : b < n) : wnS f a b = if r a < r b then 1 else if r b < r a then -1 else 0 := by
  unfold wnS
  rcases H.cmp ha hb with ⟨rfl, c⟩ | ⟨_, c⟩ | ⟨_, c⟩
  · rw [if_neg (by omega), if_neg (by omega), if_neg (by omega), if_neg (by omega)]
  · obtain ⟨e1, e2⟩ := H.ord a b ha hb c
    rw [if_pos (by omega), if_pos c]
  · obtain ⟨e1, e2⟩ := H.ord b a hb ha c
    rw [if_neg (by omega), if_pos (by omega), if_neg (by omega), if_pos c]
theorem Ordd.wn_le (H : Ordd n r f C h) {x : Nat} (hx : x < n) (hne : x ≠ h) : ∀ y : Nat, y ≤ n → wn f x y ≤ wn f h y ∧ (h < y → wn f x y < wn f h y)
  | 0, _ => by simp [wn]
  | y + 1, hy => by
    obtain ⟨i1, i2⟩ := H.wn_le hx hne y (by omega)
    have e1 := H.wnS_eq hx (by omega : y < n)
    have e2 := H.wnS_eq H.hn (by omega : y < n)
    have hf := H.first x hx hne
    have hyh : y ≠ h → r h < r y := H.first y (by omega)
    unfold wn
    rw [e1, e2]
    by_cases c : y = h
    · subst c
      rw [if_neg (by omega), if_pos hf, if_neg (by omega), if_neg (by omega)]
      omega
    · have := hyh c
      rw [if_pos this]
      repeat' split
      all_goals omega
theorem Ordd.ws_eq (H : Ordd n r f C h) : ∀ y : Nat, y ≤ n → ws f h y = 0
  | 0, _ => rfl
  | y + 1, hy => by
    have ih := H.ws_eq y (by omega)
    unfold ws
    rw [ih]
    by_cases c : y = h
    · subst c; omega
    · obtain ⟨e1, e2⟩ := H.ord h y H.hn (by omega) (H.first y (by omega) c)
      omega
theorem Ordd.ws_pos (H : Ordd n r f C h) {x : Nat} (hx : x < n) (hne : x ≠ h) : ∀ y : Nat, y ≤ n → h < y → 0 < ws f x y
  | 0, _, hh => by omega
  | y + 1, hy, hh => by
    unfold ws
    by_cases c : y = h
    · subst c
      obtain ⟨e1, e2⟩ := H.ord y x H.hn hx (H.first x hx hne)
      omega
    · have := H.ws_pos hx hne y (by omega) (by omega)
      omega
theorem grt_one {n : Nat} {g : Nat → Int} (hn : h < n) (hg : ∀ x, x < n → x ≠ h → g x < g h) : grt (tb n g) = [(h : Int)] := by
  have hl : (tb n g).length = n := tb_length
  have hne : tb n g ≠ [] := fun e => by rw [e] at hl; simp at hl; omega
  obtain ⟨g1, g2⟩ := gmax_spec hne
  have gd' : ∀ x, x < n → (tb n g).getD x 0 = g x := fun x hx => by rw [List.getD_eq_getElem?_getD, tb_get hx]; rfl
  have hm : gmax (tb n g) = g h := by
    obtain ⟨i, hi, he⟩ := List.mem_iff_getElem.1 g1
    have hi' : i < n := by omega
    have e1 : (tb n g)[i] = g i := by have := tb_get (g := g) hi'; rw [List.getElem?_eq_getElem hi] at this; exact Option.some.inj this
    have h2 := g2 (g h) (by
      have := tb_get (g := g) hn
      exact List.mem_of_getElem? this)
    by_cases c : i = h
    · subst c; omega
    · have := hg i hi' c; omega
  unfold grt
  rw [hm, hl]
  refine topsL_one (p := fun i => decide ((tb n g).getD i 0 = g h)) hn fun x hx => ?_
  rw [decide_eq_true_iff, gd' x hx]
  constructor
  · intro e
    by_cases c : x = h
    · exact c
    · have := hg x hx c; omega
  · rintro rfl; rfl
theorem Ordd.wins (H : Ordd n r f C h) : grt (tb n fun x => wn f x n) = [(h : Int)] := grt_one H.hn fun x hx hne => (H.wn_le hx hne n (Nat.le_refl _)).2 H.hn
theorem Ordd.worst (H : Ordd n r f C h) : grt (tb n fun x => -(ws f x n)) = [(h : Int)] := grt_one H.hn fun x hx hne => by
  have := H.ws_pos hx hne n (Nat.le_refl _) H.hn
  rw [H.ws_eq n (Nat.le_refl _)]; omega
end Go.Proofs.Ytohgcgedbhlnfaa
