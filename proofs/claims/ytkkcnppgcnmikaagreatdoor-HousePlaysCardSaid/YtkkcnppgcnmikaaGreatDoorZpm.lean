/- Words of a record: joined, cut again, read as numbers. No program in sight. -/
import Derived.Lib.Join
import Derived.Lib.Split
import Derived.Lib.SplitLaws
import Derived.Lib.Fields
import Derived.Lib.Atoi
import Derived.Lib.ItoaNum
namespace Zp
open Go
abbrev Str := List UInt8
def jn : List Str → Str
  | [] => []
  | [x] => x
  | x :: y :: r => x ++ 32 :: jn (y :: r)
theorem join_jn : ∀ l : List Str, Lib.join l [32] = jn l
  | [] => rfl
  | [x] => Lib.join_one x _
  | x :: y :: r => by
    have ih := join_jn (y :: r)
    rw [Lib.join_cons] at ih ⊢
    show _ = x ++ 32 :: jn (y :: r)
    rw [← ih]
    simp [Lib.joinTail]
/-- A word: not empty, of bytes that are no spaces. -/
structure Wd (s : Str) : Prop where
  ne : s ≠ []
  ns : ∀ b ∈ s, b ≠ 32 ∧ Lib.isSp b = false ∧ b.toNat < 128
theorem index_miss : ∀ {s : Str}, (∀ b ∈ s, b ≠ 32) → Lib.index s [32] = -1
  | [], _ => rfl
  | b :: s, h => by
    have hb := h b (List.mem_cons_self ..)
    have ih := index_miss (s := s) fun c hc => h c (List.mem_cons_of_mem _ hc)
    have hp : ([32] : List UInt8).isPrefixOf (b :: s) = false := by simp [List.isPrefixOf, Ne.symm hb]
    rw [Lib.index, hp, ih]; rfl
theorem index_hit : ∀ {s : Str} (r : Str), (∀ b ∈ s, b ≠ 32) → Lib.index (s ++ 32 :: r) [32] = (s.length : Int)
  | [], r, _ => by rw [List.nil_append, Lib.index]; simp [List.isPrefixOf]
  | b :: s, r, h => by
    have hb := h b (List.mem_cons_self ..)
    have ih := index_hit (s := s) r fun c hc => h c (List.mem_cons_of_mem _ hc)
    have hp : ([32] : List UInt8).isPrefixOf (b :: (s ++ 32 :: r)) = false := by simp [List.isPrefixOf, Ne.symm hb]
    rw [List.cons_append, Lib.index, hp, ih]
    have : ((s.length : Int) == -1) = false := by
      cases h : ((s.length : Int) == -1) with
      | false => rfl
      | true => have := eq_of_beq h; omega
    simp only [this, Bool.false_eq_true, if_false, List.length_cons]
    omega
theorem splitK_jn : ∀ {l : List Str}, l ≠ [] → (∀ s ∈ l, ∀ b ∈ s, b ≠ 32) → Lib.splitK [32] 0 (l.length - 1) (jn l) = l
  | [], h, _ => absurd rfl h
  | [x], _, _ => rfl
  | x :: y :: r, _, h => by
    have ih := splitK_jn (l := y :: r) (by simp) fun s hs => h s (List.mem_cons_of_mem _ hs)
    have hx := index_hit (jn (y :: r)) (h x (List.mem_cons_self ..))
    show Lib.splitK [32] 0 (r.length + 1) (x ++ 32 :: jn (y :: r)) = _
    rw [Lib.splitK, hx]
    have : ((x.length : Int) == -1) = false := by
      cases h : ((x.length : Int) == -1) with
      | false => rfl
      | true => have := eq_of_beq h; omega
    rw [this]
    simp only [Bool.false_eq_true, if_false, Int.toNat_natCast, Nat.add_zero, List.take_left', List.length_singleton]
    rw [show (x ++ 32 :: jn (y :: r)).drop (x.length + 1) = jn (y :: r) by rw [List.drop_append]; simp]
    simp only [List.length_cons, Nat.add_sub_cancel] at ih
    rw [ih]
theorem count_jn : ∀ {l : List Str}, l ≠ [] → (∀ s ∈ l, ∀ b ∈ s, b ≠ 32) → Lib.count (jn l) [32] = l.length - 1
  | [], h, _ => absurd rfl h
  | [x], _, h => by
    rw [Lib.count_one]
    show x.count 32 = 0
    exact List.count_eq_zero.2 fun hm => h x (by simp) 32 hm rfl
  | x :: y :: r, _, h => by
    have ih := count_jn (l := y :: r) (by simp) fun s hs => h s (List.mem_cons_of_mem _ hs)
    rw [Lib.count_one] at ih ⊢
    show (x ++ 32 :: jn (y :: r)).count 32 = _
    rw [List.count_append, List.count_cons_self, ih, List.count_eq_zero.2 fun hm => h x (by simp) 32 hm rfl]
    simp
theorem fieldsGo_word : ∀ {s : Str} (cur r : Str), (∀ b ∈ s, Lib.isSp b = false) → Lib.fieldsGo cur (s ++ r) = Lib.fieldsGo (cur ++ s) r
  | [], cur, r, _ => by simp
  | b :: s, cur, r, h => by
    rw [List.cons_append, Lib.fieldsGo, h b (List.mem_cons_self ..)]
    simp only [Bool.false_eq_true, if_false]
    rw [fieldsGo_word (cur ++ [b]) r fun c hc => h c (List.mem_cons_of_mem _ hc)]
    simp
theorem fields_jn : ∀ {l : List Str}, (∀ s ∈ l, Wd s) → Lib.fields (jn l) = l
  | [], _ => rfl
  | [x], h => by
    have hx := h x (by simp)
    show Lib.fieldsGo [] x = [x]
    have := fieldsGo_word (s := x) [] [] fun b hb => (hx.ns b hb).2.1
    rw [List.append_nil] at this
    rw [this, List.nil_append, Lib.fieldsGo]
    cases x with
    | nil => exact absurd rfl hx.ne
    | cons _ _ => rfl
  | x :: y :: r, h => by
    have hx := h x (by simp)
    have ih := fields_jn (l := y :: r) fun s hs => h s (List.mem_cons_of_mem _ hs)
    show Lib.fieldsGo [] (x ++ 32 :: jn (y :: r)) = _
    rw [fieldsGo_word [] _ fun b hb => (hx.ns b hb).2.1, List.nil_append, Lib.fieldsGo]
    have : Lib.isSp 32 = true := rfl
    rw [this, if_pos rfl]
    cases x with
    | nil => exact absurd rfl hx.ne
    | cons c x' =>
      simp only [List.isEmpty_cons, Bool.false_eq_true, if_false]
      rw [show Lib.fieldsGo [] (jn (y :: r)) = y :: r from ih]
/-! ### numbers -/
theorem dig_byte {k : Nat} (h : k < 10) : (UInt8.ofNat (48 + k)).toNat = 48 + k := by rw [UInt8.toNat_ofNat']; omega
theorem digitVal_of {k : Nat} (h : k < 10) : Lib.digitVal (UInt8.ofNat (48 + k)) = some k := by
  unfold Lib.digitVal
  rw [dig_byte h, if_pos (by omega)]
  congr 1; omega
theorem decFrom_append : ∀ (a b : Str) (acc : Nat), Lib.decFrom acc (a ++ b) = (Lib.decFrom acc a).bind fun n => Lib.decFrom n b
  | [], b, acc => rfl
  | c :: a, b, acc => by
    rw [List.cons_append, Lib.decFrom, Lib.decFrom]
    cases Lib.digitVal c with
    | none => rfl
    | some d => exact decFrom_append a b _
theorem decFrom_digits (u : Nat) : Lib.decFrom 0 (Lib.decDigits u) = some u := by
  induction u using Nat.strongRecOn with
  | _ u ih =>
    rw [Lib.decDigits]
    by_cases h : u < 10
    · rw [dif_pos h, Lib.decFrom, digitVal_of h]; simp [Lib.decFrom]
    · rw [dif_neg h, decFrom_append, ih (u / 10) (by omega)]
      show Lib.decFrom (u / 10) [UInt8.ofNat (48 + u % 10)] = some u
      rw [Lib.decFrom, digitVal_of (by omega)]
      simp only [Lib.decFrom, Option.some.injEq]; omega
theorem digits_byte (u : Nat) : ∀ b ∈ Lib.decDigits u, 48 ≤ b.toNat ∧ b.toNat ≤ 57 := by
  induction u using Nat.strongRecOn with
  | _ u ih =>
    intro b hb
    rw [Lib.decDigits] at hb
    by_cases h : u < 10
    · rw [dif_pos h, List.mem_singleton] at hb; subst hb; rw [dig_byte h]; omega
    · rw [dif_neg h, List.mem_append, List.mem_singleton] at hb
      rcases hb with hb | rfl
      · exact ih (u / 10) (by omega) b hb
      · rw [dig_byte (by omega)]; omega
theorem digits_ne (u : Nat) : Lib.decDigits u ≠ [] := by
  intro h
  have := Lib.decDigits_length u
  rw [h] at this
  have := Lib.nDigits_pos u
  simp at *; omega
theorem itoa_nat (n : Int) (h : 0 ≤ n) : Lib.itoa n = Lib.decDigits n.toNat := by unfold Lib.itoa; rw [if_neg (by omega)]
theorem atoi_itoa (n : Int) (h : 0 ≤ n) : Lib.atoi (Lib.itoa n) = some n := by
  rw [itoa_nat n h]
  have h1 := decFrom_digits n.toNat
  have h2 := digits_byte n.toNat
  cases hd : Lib.decDigits n.toNat with
  | nil => exact absurd hd (digits_ne _)
  | cons b r =>
    rw [hd] at h1 h2
    have hb := h2 b (List.mem_cons_self ..)
    have e1 : (b == 45) = false := by
      cases h : b == 45 with
      | false => rfl
      | true => rw [eq_of_beq h] at hb; revert hb; decide
    have e2 : (b == 43) = false := by
      cases h : b == 43 with
      | false => rfl
      | true => rw [eq_of_beq h] at hb; revert hb; decide
    rw [Lib.atoi, e1, e2]
    simp only [Bool.false_eq_true, if_false, Lib.decNat, List.isEmpty_cons, h1, Option.map_some, Option.some.injEq]
    omega
theorem itoa_len (n : Int) (h : 0 ≤ n) (h2 : n ≤ 1000000) : (Lib.itoa n).length ≤ 7 := by
  rw [itoa_nat n h, Lib.decDigits_length]
  have h3 := Lib.nDigits_pos n.toNat
  rcases Nat.lt_or_ge 7 (Lib.nDigits n.toNat) with h4 | h4
  · exfalso
    have key : ∀ k u, u < 10 ^ (k + 1) → Lib.nDigits u ≤ k + 1 := fun k => by
      induction k with
      | zero => intro u hu; rw [Lib.nDigits_small (by omega)]; omega
      | succ k ih =>
        intro u hu
        by_cases h : u < 10
        · rw [Lib.nDigits_small h]; omega
        · rw [Lib.nDigits_big h]
          have := ih (u / 10) (by rw [Nat.pow_succ] at hu; omega)
          omega
    have := key 6 n.toNat (by omega)
    omega
  · exact h4
theorem sp_digit {b : UInt8} (h : 48 ≤ b.toNat) (h2 : b.toNat < 128) : b ≠ 32 ∧ Lib.isSp b = false ∧ b.toNat < 128 := by
  have ne : ∀ k : UInt8, k.toNat < 48 → b ≠ k := fun k hk e => by subst e; omega
  refine ⟨ne 32 (by decide), ?_, h2⟩
  unfold Lib.isSp
  have hb : ∀ k : UInt8, k.toNat < 48 → (b == k) = false := fun k hk => by
    cases e : b == k with
    | false => rfl
    | true => exact absurd (eq_of_beq e) (ne k hk)
  rw [hb 9 (by decide), hb 10 (by decide), hb 11 (by decide), hb 12 (by decide), hb 13 (by decide), hb 32 (by decide)]
  rfl
theorem wd_itoa {n : Int} (h : 0 ≤ n) : Wd (Lib.itoa n) := by
  rw [itoa_nat n h]
  exact ⟨digits_ne _, fun b hb => by obtain ⟨h1, h2⟩ := digits_byte _ b hb; exact sp_digit h1 (by omega)⟩
end Zp
