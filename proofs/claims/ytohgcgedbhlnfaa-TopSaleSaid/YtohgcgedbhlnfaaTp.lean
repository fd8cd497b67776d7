/- Goods that are all alike are sold as units are: the plain law. No program in sight. -/
import Derived.Test.YtohgcgedbhlnfaaGg
import Derived.Test.YtohgcgedbhlnfaaUl
namespace Go.Proofs.Ytohgcgedbhlnfaa
open Go FM
set_option maxRecDepth 10000
set_option linter.all false
/-- What those who have one are worth, without somebody. -/
def hvV (b : Nat → Int) (wo : Int) : Nat → List Bool → Int
  | _, [] => 0
  | i, t :: r => (if t = true ∧ (i : Int) ≠ wo then b i else 0) + hvV b wo (i + 1) r
def nT : List Bool → Nat
  | [] => 0
  | t :: r => (if t = true then 1 else 0) + nT r
/-- What is above a price. -/
def abv (b : Nat → Int) (wo π : Int) : Nat → Nat → Int
  | _, 0 => 0
  | i, m + 1 => (if (i : Int) ≠ wo then max (b i - π) 0 else 0) + abv b wo π (i + 1) m
def nHi (b : Nat → Int) (wo π : Int) : Nat → Nat → Nat
  | _, 0 => 0
  | i, m + 1 => (if (i : Int) ≠ wo ∧ π < b i then 1 else 0) + nHi b wo π (i + 1) m
def nGe (b : Nat → Int) (wo π : Int) : Nat → Nat → Nat
  | _, 0 => 0
  | i, m + 1 => (if (i : Int) ≠ wo ∧ π ≤ b i then 1 else 0) + nGe b wo π (i + 1) m
theorem nHi_le {b : Nat → Int} {wo π : Int} : ∀ m i, nHi b wo π i m ≤ nGe b wo π i m
  | 0, _ => Nat.le_refl _
  | m + 1, i => by
    have := nHi_le (b := b) (wo := wo) (π := π) m (i + 1)
    unfold nHi nGe
    by_cases h : (i : Int) ≠ wo ∧ π < b i
    · rw [if_pos h, if_pos ⟨h.1, by omega⟩]; omega
    · rw [if_neg h]; split <;> omega
/-- No choice is worth more than the price allows; one that is worth as much takes only what is not below it, and leaves only what is not above it. -/
theorem hvV_le {b : Nat → Int} {wo π : Int} (hp : 0 ≤ π) : ∀ (ms : List Bool) (i : Nat), hvV b wo i ms ≤ abv b wo π i ms.length + nT ms * π
  | [], i => by simp [hvV, abv, nT]
  | t :: r, i => by
    have ih := hvV_le (b := b) (wo := wo) hp r (i + 1)
    simp only [hvV, abv, nT, List.length_cons]
    have e : (((if t = true then 1 else 0) + nT r : Nat) : Int) * π = (if t = true then π else 0) + nT r * π := by
      rw [Int.natCast_add, Int.add_mul]
      by_cases h : t = true <;> simp [h]
    rw [e]
    by_cases h : t = true <;> by_cases h2 : (i : Int) ≠ wo <;> simp only [h, h2, if_true, if_false, true_and, false_and, and_true, and_false, ne_eq, not_true_eq_false, not_false_eq_true, Bool.false_eq_true, decide_true] <;> omega
theorem hvV_tight {b : Nat → Int} {π : Int} (hp : 0 ≤ π) : ∀ (ms : List Bool) (i : Nat), (i : Int) ≥ 0 → abv b (-1) π i ms.length + nT ms * π ≤ hvV b (-1) i ms → ∀ j, (hj : j < ms.length) → (ms[j] = true → π ≤ b (i + j)) ∧ (ms[j] = false → b (i + j) ≤ π)
  | [], i, _, _, j, hj => by simp at hj
  | t :: r, i, _, h, j, hj => by
    have ih := hvV_tight (b := b) hp r (i + 1) (by omega)
    have up := hvV_le (b := b) (wo := -1) hp r (i + 1)
    simp only [hvV, abv, nT, List.length_cons] at h
    have e : (((if t = true then 1 else 0) + nT r : Nat) : Int) * π = (if t = true then π else 0) + nT r * π := by
      rw [Int.natCast_add, Int.add_mul]
      by_cases h : t = true <;> simp [h]
    rw [e] at h
    have hi : (i : Int) ≠ -1 := by omega
    rw [if_pos hi] at h
    have key : (t = true → π ≤ b i) ∧ (t = false → b i ≤ π) ∧ abv b (-1) π (i + 1) r.length + nT r * π ≤ hvV b (-1) (i + 1) r := by
      by_cases ht : t = true
      · rw [if_pos (show t = true ∧ (i : Int) ≠ -1 from ⟨ht, hi⟩), if_pos ht] at h
        refine ⟨fun _ => by omega, (fun h2 => by rw [ht] at h2; cases h2), by omega⟩
      · rw [if_neg (show ¬ (t = true ∧ (i : Int) ≠ -1) from fun c => ht c.1), if_neg ht] at h
        refine ⟨fun h2 => absurd h2 ht, fun _ => by omega, by omega⟩
    cases j with
    | zero => exact ⟨key.1, key.2.1⟩
    | succ j =>
      have := ih key.2.2 j (by simpa using hj)
      simp only [List.getElem_cons_succ]
      rw [show i + (j + 1) = i + 1 + j by omega]
      exact this
/-- .. and some choice is worth as much. -/
theorem hvV_ex {b : Nat → Int} {wo π : Int} : ∀ (m i g : Nat), nHi b wo π i m ≤ g → g ≤ nGe b wo π i m → ∃ ms : List Bool, ms.length = m ∧ nT ms = g ∧ hvV b wo i ms = abv b wo π i m + g * π
  | 0, i, g, h1, h2 => by
    simp only [nGe] at h2
    obtain rfl : g = 0 := by omega
    exact ⟨[], rfl, rfl, by simp [hvV, abv]⟩
  | m + 1, i, g, h1, h2 => by
    simp only [nHi, nGe] at h1 h2
    have skip : nHi b wo π (i + 1) m ≤ g → g ≤ nGe b wo π (i + 1) m → ((i : Int) ≠ wo → b i ≤ π) → ∃ ms : List Bool, ms.length = m + 1 ∧ nT ms = g ∧ hvV b wo i ms = abv b wo π i (m + 1) + g * π := fun a1 a2 a3 => by
      obtain ⟨ms, q1, q2, q3⟩ := hvV_ex (b := b) (wo := wo) (π := π) m (i + 1) g a1 a2
      refine ⟨false :: ms, by simp [q1], by simp [nT, q2], ?_⟩
      simp only [hvV, abv]
      rw [q3, if_neg (by simp)]
      by_cases hw : (i : Int) ≠ wo
      · have := a3 hw
        rw [if_pos hw]; omega
      · rw [if_neg hw]; omega
    have take : ∀ g', g = g' + 1 → nHi b wo π (i + 1) m ≤ g' → g' ≤ nGe b wo π (i + 1) m → (i : Int) ≠ wo → π ≤ b i → ∃ ms : List Bool, ms.length = m + 1 ∧ nT ms = g ∧ hvV b wo i ms = abv b wo π i (m + 1) + g * π := fun g' e a1 a2 hw a3 => by
      obtain ⟨ms, q1, q2, q3⟩ := hvV_ex (b := b) (wo := wo) (π := π) m (i + 1) g' a1 a2
      refine ⟨true :: ms, by simp [q1], by simp [nT, q2]; omega, ?_⟩
      simp only [hvV, abv]
      subst e
      rw [q3, if_pos ⟨trivial, hw⟩, if_pos hw, Int.natCast_add, Int.add_mul]
      simp only [Int.natCast_one, Int.one_mul]
      omega
    by_cases hw : (i : Int) ≠ wo
    · by_cases hlt : π < b i
      · rw [if_pos ⟨hw, hlt⟩] at h1
        rw [if_pos ⟨hw, by omega⟩] at h2
        exact take (g - 1) (by omega) (by omega) (by omega) hw (by omega)
      · rw [if_neg (fun c => hlt c.2)] at h1
        by_cases heq : π ≤ b i
        · rw [if_pos ⟨hw, heq⟩] at h2
          by_cases hs : g ≤ nGe b wo π (i + 1) m
          · exact skip (by omega) hs (fun _ => by omega)
          · have := nHi_le (b := b) (wo := wo) (π := π) m (i + 1)
            exact take (g - 1) (by omega) (by omega) (by omega) hw heq
        · rw [if_neg (fun c => heq c.2)] at h2
          exact skip (by omega) (by omega) (fun _ => by omega)
    · rw [if_neg (fun c => hw c.1)] at h1 h2
      exact skip (by omega) (by omega) (fun c => absurd c hw)
/-! ### sharings of goods that are all alike -/
def has (x : List Int) : List Bool := x.map fun k => decide (0 ≤ k)
theorem vl_has {b : Nat → Int} {wo : Int} : ∀ (x : List Int) (i : Nat), G.vl (fun i _ => b i) wo i x = hvV b wo i (has x)
  | [], i => rfl
  | k :: r, i => by
    have ih := vl_has (b := b) (wo := wo) r (i + 1)
    simp only [G.vl, has, List.map_cons, hvV]
    rw [ih]
    unfold G.gain has
    by_cases h : 0 ≤ k ∧ (i : Int) ≠ wo
    · rw [if_pos h, if_pos ⟨decide_eq_true h.1, h.2⟩]
    · rw [if_neg h, if_neg (fun c => h ⟨of_decide_eq_true c.1, c.2⟩)]
/-- How many goods are left. -/
def fre (g T : Nat) : Nat := ((List.range g).filter fun k => !T.testBit k).length
theorem fre_zero (g : Nat) : fre g 0 = g := by
  unfold fre
  rw [List.filter_eq_self.2 (fun k _ => by simp)]
  simp
theorem fre_add {g T c : Nat} (hc : c < g) (hT : T.testBit c = false) : fre g (T ||| 2 ^ c) + 1 = fre g T := by
  have hb : ∀ k, (T ||| 2 ^ c).testBit k = (T.testBit k || decide (c = k)) := fun k => by rw [Nat.testBit_or, Nat.testBit_two_pow]
  unfold fre
  have key : ∀ n, ((List.range n).filter fun k => !(T ||| 2 ^ c).testBit k).length + (if c < n then 1 else 0) = ((List.range n).filter fun k => !T.testBit k).length := fun n => by
    induction n with
    | zero => simp
    | succ n ih =>
      rw [List.range_succ, List.filter_append, List.filter_append, List.length_append, List.length_append, ← ih]
      by_cases e : c = n
      · subst e
        have e1 : ([c].filter fun k => !(T ||| 2 ^ c).testBit k) = [] := by simp [hb]
        have e2 : ([c].filter fun k => !T.testBit k) = [c] := by simp [hT]
        rw [e1, e2]; simp
      · have e1 : ([n].filter fun k => !(T ||| 2 ^ c).testBit k) = ([n].filter fun k => !T.testBit k) := by
          have : (T ||| 2 ^ c).testBit n = T.testBit n := by rw [hb, decide_eq_false e, Bool.or_false]
          simp only [List.filter_cons, List.filter_nil, this]
        rw [e1]
        by_cases l : c < n
        · rw [if_pos l, if_pos (by omega)]; omega
        · rw [if_neg l, if_neg (by omega)]; omega
  have := key g
  rw [if_pos hc] at this
  exact this
theorem addT_nat {T c : Nat} : G.addT T (c : Int) = T ||| 2 ^ c := by unfold G.addT; rw [if_neg (by omega), Int.toNat_natCast]
theorem en_has {g : Nat} : ∀ (m T : Nat), ∀ x ∈ G.en g m T, (has x).length = m ∧ nT (has x) ≤ fre g T
  | 0, T, x, hx => by
    rw [G.en, List.mem_singleton] at hx
    subst hx; exact ⟨rfl, Nat.zero_le _⟩
  | m + 1, T, x, hx => by
    unfold G.en at hx
    obtain ⟨k, hk, hx⟩ := List.mem_flatMap.1 hx
    obtain ⟨r, hr, rfl⟩ := List.mem_map.1 hx
    have ih := en_has m (G.addT T k) r hr
    unfold has at ih ⊢
    simp only [List.map_cons, List.length_cons, nT]
    rcases G.optK_mem.1 hk with rfl | ⟨c, hc, hT, rfl⟩
    · have e : G.addT T (-1) = T := by unfold G.addT; rw [if_pos (by omega)]
      rw [e] at ih
      refine ⟨by omega, ?_⟩
      rw [if_neg (by simp)]; omega
    · rw [addT_nat] at ih
      have := fre_add hc hT
      refine ⟨by omega, ?_⟩
      rw [if_pos (by simp)]; omega
theorem fre_pos {g T : Nat} (h : 0 < fre g T) : ∃ c, c < g ∧ T.testBit c = false := by
  unfold fre at h
  obtain ⟨c, hc⟩ := List.exists_mem_of_length_pos h
  have := List.mem_filter.1 hc
  exact ⟨c, List.mem_range.1 this.1, by simpa using this.2⟩
theorem en_real {g : Nat} : ∀ (ms : List Bool) (T : Nat), nT ms ≤ fre g T → ∃ x ∈ G.en g ms.length T, has x = ms
  | [], T, _ => ⟨[], by simp [G.en], rfl⟩
  | t :: r, T, h => by
    simp only [nT] at h
    by_cases ht : t = true
    · rw [if_pos ht] at h
      obtain ⟨c, hc, hT⟩ := fre_pos (g := g) (T := T) (by omega)
      have hf := fre_add hc hT
      obtain ⟨x, hx, e⟩ := en_real (g := g) r (T ||| 2 ^ c) (by omega)
      refine ⟨(c : Int) :: x, ?_, ?_⟩
      · simp only [List.length_cons]
        unfold G.en
        exact List.mem_flatMap.2 ⟨(c : Int), G.optK_mem.2 (.inr ⟨c, hc, hT, rfl⟩), List.mem_map.2 ⟨x, by rw [addT_nat]; exact hx, rfl⟩⟩
      · unfold has at e ⊢
        rw [List.map_cons, e, ht]; simp
    · rw [if_neg ht] at h
      obtain ⟨x, hx, e⟩ := en_real (g := g) r T (by omega)
      have ha : G.addT T (-1) = T := by unfold G.addT; rw [if_pos (by omega)]
      refine ⟨-1 :: x, ?_, ?_⟩
      · simp only [List.length_cons]
        unfold G.en
        exact List.mem_flatMap.2 ⟨-1, G.optK_mem.2 (.inl rfl), List.mem_map.2 ⟨x, by rw [ha]; exact hx, rfl⟩⟩
      · unfold has at e ⊢
        rw [List.map_cons, e]
        cases t
        · simp
        · exact absurd rfl ht
/-- What the best sharing of goods that are all alike is worth. -/
theorem bst_alike {b : Nat → Int} {wo π : Int} {n g : Nat} (hp : 0 ≤ π) (h1 : nHi b wo π 0 n ≤ g) (h2 : π = 0 ∨ g ≤ nGe b wo π 0 n) :
    (G.bst g (fun i _ => b i) wo n 0 0).2 = abv b wo π 0 n + g * π := by
  have hS := G.bst_Sm (g := g) (w := fun i _ => b i) (wo := wo) n 0 0
  obtain ⟨x, hx, e⟩ := hS.mem
  have hu : (G.bst g (fun i _ => b i) wo n 0 0).2 ≤ abv b wo π 0 n + g * π := by
    rw [e]
    simp only
    rw [vl_has]
    obtain ⟨hl, hc⟩ := en_has n 0 x hx
    rw [fre_zero] at hc
    have := hvV_le (b := b) (wo := wo) hp (has x) 0
    rw [hl] at this
    have h3 : ((nT (has x) : Nat) : Int) * π ≤ (g : Int) * π := Int.mul_le_mul_of_nonneg_right (by omega) hp
    omega
  have hge : abv b wo π 0 n + g * π ≤ (G.bst g (fun i _ => b i) wo n 0 0).2 := by
    have hle := nHi_le (b := b) (wo := wo) (π := π) n 0
    obtain ⟨ms, q1, q2, q3⟩ := hvV_ex (b := b) (wo := wo) (π := π) n 0 (min g (nGe b wo π 0 n)) (by omega) (by omega)
    obtain ⟨y, hy, ey⟩ := en_real (g := g) ms 0 (by rw [fre_zero]; omega)
    rw [q1] at hy
    have := hS.le y hy
    rw [vl_has, ey, q3] at this
    rcases h2 with rfl | h2
    · simp only [Int.mul_zero] at this ⊢; exact this
    · rw [show min g (nGe b wo π 0 n) = g by omega] at this; exact this
  omega
theorem abv_without {b : Nat → Int} {π : Int} : ∀ (m i j : Nat), i ≤ j → j < i + m → abv b (-1) π i m = abv b (j : Int) π i m + max (b j - π) 0
  | 0, i, j, h1, h2 => by omega
  | m + 1, i, j, h1, h2 => by
    simp only [abv]
    rw [if_pos (show (i : Int) ≠ -1 by omega)]
    by_cases e : i = j
    · subst e
      rw [if_neg (by simp)]
      have : ∀ (m k : Nat), i < k → abv b (-1) π k m = abv b (i : Int) π k m := fun m => by
        induction m with
        | zero => intro k _; rfl
        | succ m ih =>
          intro k hk
          simp only [abv]
          rw [if_pos (show (k : Int) ≠ -1 by omega), if_pos (show (k : Int) ≠ (i : Int) by omega), ih (k + 1) (by omega)]
      rw [this m (i + 1) (by omega)]; omega
    · rw [if_pos (show (i : Int) ≠ (j : Int) by omega), abv_without m (i + 1) j (by omega) (by omega)]; omega
theorem nHi_without {b : Nat → Int} {π wo : Int} : ∀ (m i : Nat), nHi b wo π i m ≤ nHi b (-1) π i m
  | 0, _ => Nat.le_refl _
  | m + 1, i => by
    have := nHi_without (b := b) (π := π) (wo := wo) m (i + 1)
    simp only [nHi]
    by_cases h : (i : Int) ≠ wo ∧ π < b i
    · rw [if_pos h, if_pos ⟨by omega, h.2⟩]; omega
    · rw [if_neg h]; split <;> omega
theorem nGe_without {b : Nat → Int} {π : Int} {j : Nat} : ∀ (m i : Nat), nGe b (-1) π i m ≤ nGe b (j : Int) π i m + (if i ≤ j then 1 else 0)
  | 0, _ => by simp [nGe]
  | m + 1, i => by
    have := nGe_without (b := b) (π := π) (j := j) m (i + 1)
    simp only [nGe]
    by_cases e : i = j
    · subst e
      rw [if_neg (show ¬ ((i : Int) ≠ (i : Int) ∧ π ≤ b i) by simp), if_pos (Nat.le_refl _)]
      rw [if_neg (by omega)] at this
      split <;> omega
    · by_cases h : (i : Int) ≠ -1 ∧ π ≤ b i
      · rw [if_pos h, if_pos ⟨by omega, h.2⟩]
        by_cases l : i ≤ j
        · rw [if_pos l]; rw [if_pos (by omega)] at this; omega
        · rw [if_neg l]; rw [if_neg (by omega)] at this; omega
      · rw [if_neg h]
        by_cases l : i ≤ j
        · rw [if_pos l]; rw [if_pos (by omega)] at this; split <;> omega
        · rw [if_neg l]; rw [if_neg (by omega)] at this; split <;> omega
end Go.Proofs.Ytohgcgedbhlnfaa
