/- Packing: the plain law of the table, and of trying all sets. -/
import Derived.Test.YtglbicbaplejeaaTf
namespace Go.Proofs.Ytglbicbaplejeaa
open Go FM
set_option linter.all false
/-- An item: what it weighs, and what it is worth. -/
abbrev It := Int × Int × Unit
abbrev it : It → AV
  | (w, v, _) => .agg [.int w, .int v]
def bad (x : It) : Bool := decide (x.1 < 1 ∨ 100 < x.1 ∨ x.2.1 < 0 ∨ 1000000 < x.2.1)
/-- What is right. -/
structure IOk (l : List It) : Prop where
  len : l.length ≤ 12
  ok : ∀ x ∈ l, 1 ≤ x.1 ∧ x.1 ≤ 100 ∧ 0 ≤ x.2.1 ∧ x.2.1 ≤ 1000000
theorem IOk.tail {x : It} {l : List It} (h : IOk (x :: l)) : IOk l := ⟨by have := h.len; simp only [List.length_cons] at this; omega, fun y hy => h.ok y (List.mem_cons_of_mem _ hy)⟩
theorem IOk.drop {l : List It} (h : IOk l) (k : Nat) : IOk (l.drop k) := ⟨by have := h.len; rw [List.length_drop]; omega, fun y hy => h.ok y (List.mem_of_mem_drop hy)⟩
/-- The most that can be had. -/
def bv : List It → Int → Int
  | [], _ => 0
  | x :: xs, r => if x.1 ≤ r then max (bv xs r) (x.2.1 + bv xs (r - x.1)) else bv xs r
def pk : List It → Int → Nat → List Int
  | [], _, _ => []
  | x :: xs, r, i => if x.1 ≤ r ∧ 0 < x.2.1 ∧ x.2.1 + bv xs (r - x.1) = bv (x :: xs) r then (i : Int) :: pk xs (r - x.1) (i + 1) else pk xs r (i + 1)
theorem bv_bound : ∀ {l : List It} {r : Int}, IOk l → 0 ≤ bv l r ∧ bv l r ≤ 1000000 * l.length
  | [], r, _ => by simp [bv]
  | x :: xs, r, h => by
    have h1 := bv_bound (r := r) h.tail
    have h2 := bv_bound (r := r - x.1) h.tail
    have h3 := h.ok x (List.mem_cons_self ..)
    unfold bv
    rw [List.length_cons]
    split <;> omega
theorem bv_mono : ∀ {l : List It} {r r' : Int}, IOk l → r ≤ r' → bv l r ≤ bv l r'
  | [], r, r', _, _ => by simp [bv]
  | x :: xs, r, r', h, hr => by
    have h1 := bv_mono h.tail hr
    have h2 := bv_mono (r := r - x.1) (r' := r' - x.1) h.tail (by omega)
    unfold bv
    split <;> split <;> omega
theorem bv_drop {l : List It} {k : Nat} (hk : k < l.length) (r : Int) : bv (l.drop k) r = if l[k].1 ≤ r then max (bv (l.drop (k + 1)) r) (l[k].2.1 + bv (l.drop (k + 1)) (r - l[k].1)) else bv (l.drop (k + 1)) r := by
  rw [List.drop_eq_getElem_cons hk]; rfl
theorem pk_drop {l : List It} {k : Nat} (hk : k < l.length) (r : Int) : pk (l.drop k) r k = if l[k].1 ≤ r ∧ 0 < l[k].2.1 ∧ l[k].2.1 + bv (l.drop (k + 1)) (r - l[k].1) = bv (l.drop k) r then (k : Int) :: pk (l.drop (k + 1)) (r - l[k].1) (k + 1) else pk (l.drop (k + 1)) r (k + 1) := by
  rw [List.drop_eq_getElem_cons hk]; rfl
/-! ### all sets -/
def inS (b : Nat → Bool) : Nat → List Int
  | 0 => []
  | i + 1 => if b i = true then inS b i ++ [(i : Int)] else inS b i
def sumS (g : Nat → Int) (b : Nat → Bool) : Nat → Int
  | 0 => 0
  | i + 1 => if b i = true then sumS g b i + g i else sumS g b i
def okS (g : Nat → Int) (b : Nat → Bool) : Nat → Bool
  | 0 => true
  | i + 1 => if b i = true then okS g b i && decide (0 < g i) else okS g b i
/-- What one set gives. -/
structure Cd where
  l : List Int
  w : Int
  v : Int
  ok : Bool
def ev : List It → List Bool → Nat → Cd → Cd
  | [], _, _, c => c
  | _ :: _, [], _, c => c
  | x :: xs, b :: bs, i, c => ev xs bs (i + 1) (if b = true then ⟨c.l ++ [(i : Int)], c.w + x.1, c.v + x.2.1, c.ok && decide (0 < x.2.1)⟩ else c)
def upd (r : Int) (a : List Int × Int) (c : Cd) : List Int × Int := if c.ok = true ∧ c.w ≤ r ∧ a.2 < c.v then (c.l, c.v) else a
def gen : Nat → List (List Bool)
  | 0 => [[]]
  | n + 1 => (gen n).map (true :: ·) ++ (gen n).map (false :: ·)
theorem ev_bad : ∀ {xs : List It} {bs : List Bool} {i : Nat} {c : Cd} {r : Int}, IOk xs → (c.ok = false ∨ r < c.w) → (ev xs bs i c).ok = false ∨ r < (ev xs bs i c).w
  | [], _, _, c, r, _, h => h
  | _ :: _, [], _, c, r, _, h => h
  | x :: xs, b :: bs, i, c, r, hx, h => by
    have h3 := hx.ok x (List.mem_cons_self ..)
    unfold ev
    refine ev_bad hx.tail ?_
    cases b with
    | false => simpa using h
    | true =>
      simp only [if_true]
      rcases h with h | h
      · left; rw [h]; rfl
      · right; omega
theorem fold_bad {xs : List It} {i : Nat} {c : Cd} {r : Int} (hx : IOk xs) (h : c.ok = false ∨ r < c.w) : ∀ (L : List (List Bool)) (a : List Int × Int), L.foldl (fun a bs => upd r a (ev xs bs i c)) a = a
  | [], a => rfl
  | bs :: L, a => by
    rw [List.foldl_cons]
    have := ev_bad (bs := bs) (i := i) hx h
    have e : upd r a (ev xs bs i c) = a := by
      unfold upd; rw [if_neg]; rintro ⟨h1, h2, _⟩
      rcases this with h | h
      · rw [h1] at h; cases h
      · omega
    rw [e]; exact fold_bad hx h L a
theorem fold_gen : ∀ {xs : List It} (i : Nat) (c : Cd) (r : Int) (a : List Int × Int), IOk xs → c.ok = true → c.w ≤ r →
    (gen xs.length).foldl (fun a bs => upd r a (ev xs bs i c)) a = if a.2 < c.v + bv xs (r - c.w) then (c.l ++ pk xs (r - c.w) i, c.v + bv xs (r - c.w)) else a
  | [], i, c, r, a, _, h1, h2 => by
    have e1 : (gen ([] : List It).length).foldl (fun a bs => upd r a (ev [] bs i c)) a = upd r a c := rfl
    rw [e1]; unfold upd
    simp only [bv, pk, Int.add_zero, List.append_nil, h1, h2, true_and]
  | x :: xs, i, c, r, a, hx, h1, h2 => by
    have hx3 := hx.ok x (List.mem_cons_self ..)
    have hm := bv_mono (l := xs) (r := r - c.w - x.1) (r' := r - c.w) hx.tail (by omega)
    rw [List.length_cons, gen, List.foldl_append, List.foldl_map, List.foldl_map]
    have e1 : ∀ a : List Int × Int, (gen xs.length).foldl (fun a bs => upd r a (ev (x :: xs) (true :: bs) i c)) a = (gen xs.length).foldl (fun a bs => upd r a (ev xs bs (i + 1) ⟨c.l ++ [(i : Int)], c.w + x.1, c.v + x.2.1, c.ok && decide (0 < x.2.1)⟩)) a := fun a => rfl
    have e2 : ∀ a : List Int × Int, (gen xs.length).foldl (fun a bs => upd r a (ev (x :: xs) (false :: bs) i c)) a = (gen xs.length).foldl (fun a bs => upd r a (ev xs bs (i + 1) c)) a := fun a => rfl
    rw [e1, e2]
    rw [fold_gen (i + 1) c r _ hx.tail h1 h2]
    by_cases hg : 0 < x.2.1 ∧ c.w + x.1 ≤ r
    · rw [fold_gen (i + 1) ⟨c.l ++ [(i : Int)], c.w + x.1, c.v + x.2.1, c.ok && decide (0 < x.2.1)⟩ r a hx.tail (by rw [h1, decide_eq_true hg.1]; rfl) hg.2]
      simp only
      rw [show r - (c.w + x.1) = r - c.w - x.1 by omega]
      have hb : bv (x :: xs) (r - c.w) = max (bv xs (r - c.w)) (x.2.1 + bv xs (r - c.w - x.1)) := by
        unfold bv; rw [if_pos (by omega)]; cases xs <;> rfl
      generalize hA : bv xs (r - c.w - x.1) = A at *
      generalize hB : bv xs (r - c.w) = B at *
      by_cases hAB : B ≤ x.2.1 + A
      · have hb2 : bv (x :: xs) (r - c.w) = x.2.1 + A := by rw [hb]; omega
        have hp : pk (x :: xs) (r - c.w) i = (i : Int) :: pk xs (r - c.w - x.1) (i + 1) := by
          unfold pk; rw [if_pos ⟨by omega, hg.1, by rw [hb2, hA]⟩]; cases xs <;> rfl
        rw [hb2, hp]
        by_cases hc : a.2 < c.v + x.2.1 + A
        · rw [if_pos hc, if_neg (by simp only; omega), if_pos (by omega)]
          simp only [List.append_assoc, List.singleton_append, Prod.mk.injEq, true_and]; omega
        · rw [if_neg hc, if_neg (by omega), if_neg (by omega)]
      · have hb2 : bv (x :: xs) (r - c.w) = B := by rw [hb]; omega
        have hp : pk (x :: xs) (r - c.w) i = pk xs (r - c.w) (i + 1) := by
          unfold pk; rw [if_neg (by rw [hb2, hA]; omega)]; cases xs <;> rfl
        rw [hb2, hp]
        by_cases hc : a.2 < c.v + x.2.1 + A
        · rw [if_pos hc, if_pos (by simp only; omega), if_pos (by omega)]
        · rw [if_neg hc]
    · rw [fold_bad hx.tail (by
        rcases Decidable.not_and_iff_or_not.1 hg with h | h
        · left; simp only; rw [decide_eq_false h, Bool.and_false]
        · right; simp only; omega)]
      have hb2 : bv (x :: xs) (r - c.w) = bv xs (r - c.w) := by
        unfold bv
        rcases Decidable.not_and_iff_or_not.1 hg with h | h
        · split
          · cases xs <;> (simp only [bv] at *; omega)
          · cases xs <;> rfl
        · rw [if_neg (by omega)]; cases xs <;> rfl
      have hp : pk (x :: xs) (r - c.w) i = pk xs (r - c.w) (i + 1) := by
        unfold pk
        rw [if_neg (fun h => hg ⟨h.2.1, by omega⟩)]; cases xs <;> rfl
      rw [hb2, hp]
/-- The sets, by their numbers. -/
def bits (n s : Nat) : List Bool := (List.range n).map fun i => s.testBit (n - 1 - i)
theorem bits_succ {n s : Nat} : bits (n + 1) s = s.testBit n :: bits n s := by
  unfold bits
  rw [List.range_succ_eq_map, List.map_cons, List.map_map]
  refine congr (congrArg _ (by simp)) (List.map_congr_left fun i hi => ?_)
  have := List.mem_range.1 hi
  simp only [Function.comp, Nat.succ_eq_add_one]
  congr 1; omega
theorem bits_mod {n s t : Nat} (h : ∀ i, i < n → s.testBit i = t.testBit i) : bits n s = bits n t := by
  unfold bits
  exact List.map_congr_left fun i hi => h _ (by have := List.mem_range.1 hi; omega)
theorem gen_bits : ∀ n, (List.range (2 ^ n)).map (fun k => bits n (2 ^ n - 1 - k)) = gen n
  | 0 => rfl
  | n + 1 => by
    have ih := gen_bits n
    rw [gen, ← ih, Nat.pow_succ, Nat.mul_two, List.range_add, List.map_append, List.map_map, List.map_map, List.map_map]
    congr 1
    · refine List.map_congr_left fun k hk => ?_
      have := List.mem_range.1 hk
      simp only [Function.comp]
      rw [bits_succ, show 2 ^ n + 2 ^ n - 1 - k = 2 ^ n + (2 ^ n - 1 - k) by omega]
      rw [Nat.testBit_two_pow_add_eq, Nat.testBit_lt_two_pow (by omega)]
      refine congr rfl (bits_mod fun i hi => ?_)
      exact Nat.testBit_two_pow_add_gt hi _
    · refine List.map_congr_left fun k hk => ?_
      have := List.mem_range.1 hk
      simp only [Function.comp]
      rw [bits_succ, show 2 ^ n + 2 ^ n - 1 - (2 ^ n + k) = 2 ^ n - 1 - k by omega, Nat.testBit_lt_two_pow (by omega)]
/-- The reference's state behind the first k sets. -/
def setC (l : List It) (s i : Nat) : Cd :=
  let n := l.length
  let b := fun i => s.testBit (n - 1 - i)
  ⟨inS b i, sumS (fun i => (l.getD i (0, 0, ())).1) b i, sumS (fun i => (l.getD i (0, 0, ())).2.1) b i, okS (fun i => (l.getD i (0, 0, ())).2.1) b i⟩
def mo (l : List It) (r : Int) : Nat → List Int × Int
  | 0 => ([], -1)
  | k + 1 => upd r (mo l r k) (setC l (2 ^ l.length - 1 - k) l.length)
theorem ev_setC {l : List It} {s : Nat} : ∀ (m k : Nat), k + m = l.length → ev (l.drop k) (((List.range l.length).map fun i => s.testBit (l.length - 1 - i)).drop k) k (setC l s k) = setC l s l.length
  | 0, k, h => by
    obtain rfl : k = l.length := by omega
    rw [List.drop_length]; rfl
  | m + 1, k, h => by
    have hk : k < l.length := by omega
    have hk2 : k < ((List.range l.length).map fun i => s.testBit (l.length - 1 - i)).length := by simpa using hk
    rw [List.drop_eq_getElem_cons hk, List.drop_eq_getElem_cons hk2]
    unfold ev
    rw [← ev_setC m (k + 1) (by omega)]
    congr 1
    simp only [List.getElem_map, List.getElem_range]
    unfold setC
    simp only [inS, sumS, okS]
    have hg : l.getD k (0, 0, ()) = l[k] := by rw [List.getD_eq_getElem?_getD, List.getElem?_eq_getElem hk]; rfl
    by_cases hb : s.testBit (l.length - 1 - k) = true
    · simp only [hb, if_true, hg]
    · simp only [hb, if_false, Bool.false_eq_true, hg]
theorem mo_fold (l : List It) (r : Int) : ∀ k, mo l r k = ((List.range k).map (fun k => bits l.length (2 ^ l.length - 1 - k))).foldl (fun a bs => upd r a (ev l bs 0 ⟨[], 0, 0, true⟩)) ([], -1)
  | 0 => rfl
  | k + 1 => by
    rw [List.range_succ, List.map_append, List.foldl_append, ← mo_fold l r k]
    simp only [List.map_cons, List.map_nil, List.foldl_cons, List.foldl_nil]
    show upd r (mo l r k) (setC l (2 ^ l.length - 1 - k) l.length) = _
    have := ev_setC (l := l) (s := 2 ^ l.length - 1 - k) l.length 0 (by omega)
    rw [List.drop_zero, List.drop_zero] at this
    rw [← this]; rfl
/-- Trying all sets gives what the table gives. -/
theorem mo_all {l : List It} {r : Int} (h : IOk l) (hr : 0 ≤ r) : mo l r (2 ^ l.length) = (pk l r 0, bv l r) := by
  rw [mo_fold, gen_bits, fold_gen 0 ⟨[], 0, 0, true⟩ r _ h rfl hr]
  have := bv_bound (l := l) (r := r) h
  simp only [Int.sub_zero, List.nil_append, Int.zero_add]
  rw [if_pos (by omega)]
end Go.Proofs.Ytglbicbaplejeaa
