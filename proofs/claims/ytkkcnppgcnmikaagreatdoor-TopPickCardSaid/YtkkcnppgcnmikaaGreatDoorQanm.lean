/- Offers of unlike accounts: what is taken in is what packing greedily takes. No program in sight. -/
import Derived.Test.YtkkcnppgcnmikaaGreatDoorHwnm
import Derived.Test.YtkkcnppgcnmikaaGreatDoorKcnm
import Derived.Test.YtkkcnppgcnmikaaGreatDoorOrnm
import Derived.Test.YtkkcnppgcnmikaaGreatDoorFrnm
import Derived.Test.YtkkcnppgcnmikaaGreatDoorFsnm
namespace Go.Proofs.YtkkcnppgcnmikaaGreatDoor
open Go FM Go.Proofs
set_option maxRecDepth 10000
set_option linter.all false
/-- The names of the accounts: a, b, c, d, e, f. -/
def an (k : Nat) : Str := [UInt8.ofNat (97 + k)]
theorem an_inj {i k : Nat} (hi : i < 6) (hk : k < 6) : an i = an k ↔ i = k := by
  have h : ∀ i, i < 6 → ∀ k, k < 6 → (an i = an k ↔ i = k) := by decide
  exact h i hi k hk
theorem an_nm {k : Nat} (hk : k < 6) : nmB (an k) = true := by
  have h : ∀ k, k < 6 → nmB (an k) = true := by decide
  exact h k hk
theorem an_lt {i k : Nat} (hik : i < k) (hk : k < 6) : an i < an k := by
  have h : ∀ k, k < 6 → ∀ i, i < k → an i < an k := by decide
  exact h k hk i hik
def pra (k : Nat) : Str := if k = 0 then [] else an (k - 1)
theorem pra_no {k : Nat} (hk : k < 6) : ¬ (an k < pra k ∨ an k = pra k) := by
  have h : ∀ k, k < 6 → ¬ (an k < pra k ∨ an k = pra k) := by decide
  exact h k hk
/-- c accounts. -/
def LcN (c : Nat) (M N : Nat → Int) : List Ac := (List.range c).map fun k => (an k, M k, N k, ())
theorem LcN_len {c : Nat} {M N : Nat → Int} : (LcN c M N).length = c := by unfold LcN; simp
theorem LcN_get {c : Nat} {M N : Nat → Int} {k : Nat} (h : k < c) : (LcN c M N)[k]? = some (an k, M k, N k, ()) := by
  unfold LcN; rw [List.getElem?_map, List.getElem?_range h]; rfl
theorem LcN_succ {c : Nat} {M N : Nat → Int} : LcN (c + 1) M N = LcN c M N ++ [(an c, M c, N c, ())] := by
  unfold LcN; rw [List.range_succ, List.map_append]; rfl
theorem LcN_L {c : Nat} {M N : Nat → Int} (h : c ≤ 6) : AcL (LcN c M N) := ⟨by rw [LcN_len]; omega, fun a ha => by
  obtain ⟨k, hk, rfl⟩ := List.mem_map.1 ha
  show (an k).length ≤ _
  unfold an; simp⟩
structure Wid (c : Nat) (M N : Nat → Int) : Prop where
  m : ∀ k, k < c → 0 ≤ M k ∧ M k ≤ 1000000
  n : ∀ k, k < c → 0 ≤ N k ∧ N k ≤ 1000000
theorem acR_LcN {c : Nat} {M N : Nat → Int} (hc : c ≤ 6) (h : Wid c M N) : ∀ m k, k + m = c → acR (pra k) ((List.range' k m).map fun k => (an k, M k, N k, ())) = 0
  | 0, k, _ => rfl
  | m + 1, k, hk => by
    have h1 := h.m k (by omega)
    have h2 := h.n k (by omega)
    rw [List.range'_succ, List.map_cons]
    show (if nmB (an k) = false ∨ (an k < pra k ∨ an k = pra k) then (3 : Int) else if (wiB (M k) && (wiB (N k) && true)) = false then 1 else acR (an k) _) = 0
    have e := acR_LcN hc h m (k + 1) (by omega)
    rw [show pra (k + 1) = an k from rfl] at e
    rw [if_neg (fun q => by rcases q with q | q; · rw [an_nm (by omega)] at q; cases q
                            · exact pra_no (by omega) q), wiB_iff.2 h1, wiB_iff.2 h2, if_neg (by decide)]
    exact e
theorem acE_LcN {c : Nat} {M N : Nat → Int} (hc : c ≤ 6) (h : Wid c M N) : acE (LcN c M N) = 0 := by
  unfold acE
  rw [if_neg (by rw [LcN_len]; omega)]
  have := acR_LcN hc h c 0 (by omega)
  rw [← List.range_eq_range'] at this
  exact this
theorem fidxR {α : Type} {p : α → Bool} {g : Nat → α} {k : Nat} : ∀ m j, j ≤ k → k < j + m → (∀ i, i < j + m → p (g i) = decide (i = k)) → fidx p ((List.range' j m).map g) j = (k : Int)
  | 0, j, h1, h2, _ => by omega
  | m + 1, j, h1, h2, h => by
    rw [List.range'_succ, List.map_cons]
    show (bif p (g j) then (j : Int) else fidx p _ (j + 1)) = _
    rw [h j (by omega)]
    by_cases e : j = k
    · rw [decide_eq_true e, cond_true, e]
    · rw [decide_eq_false e, cond_false]
      exact fidxR m (j + 1) (by omega) (by omega) fun i hi => h i (by omega)
theorem fidxN {α : Type} {p : α → Bool} : ∀ (l : List α) (j : Nat), (∀ x ∈ l, p x = false) → fidx p l j = -1
  | [], _, _ => rfl
  | x :: l, j, h => by
    show (bif p x then (j : Int) else fidx p l (j + 1)) = _
    rw [h x (List.mem_cons_self ..), cond_false]
    exact fidxN l (j + 1) fun y hy => h y (List.mem_cons_of_mem _ hy)
theorem fA_LcN {c : Nat} {M N : Nat → Int} (hc : c ≤ 6) {k : Nat} (hk : k < c) : fA (LcN c M N) (an k) = (k : Int) := by
  unfold fA LcN
  rw [List.range_eq_range']
  exact fidxR c 0 (by omega) (by omega) fun i hi => by
    show decide (an i = an k) = _
    rw [decide_eq_decide]; exact an_inj (by omega) (by omega)
theorem fA_not {c : Nat} {M N : Nat → Int} (hc : c < 6) : fA (LcN c M N) (an c) = -1 := by
  unfold fA
  refine fidxN _ _ fun x hx => ?_
  obtain ⟨k, hk, rfl⟩ := List.mem_map.1 hx
  have hk := List.mem_range.1 hk
  refine decide_eq_false fun e => ?_
  have := (an_inj (by omega) (by omega)).1 e
  omega
/-! ### opening one account after the other -/
theorem takeW_all {α : Type} {p : α → Bool} : ∀ {l : List α}, (∀ x ∈ l, p x = true) → l.takeWhile p = l
  | [], _ => rfl
  | x :: l, h => by
    rw [List.takeWhile_cons, h x (List.mem_cons_self ..), if_pos rfl, takeW_all fun y hy => h y (List.mem_cons_of_mem _ hy)]
theorem op_LcN {c : Nat} {M N : Nat → Int} (hc : c < 6) (h : Wid c M N) (hm : 0 ≤ M c ∧ M c ≤ 1000000) (hn : N c = 0) : opE (LcN c M N) (an c) (M c) = 0 ∧ opM (LcN c M N) (an c) (M c) = LcN (c + 1) M N := by
  constructor
  · unfold opE
    rw [acE_LcN (by omega) h, if_neg (by decide), an_nm hc, if_neg (by decide), wiB_iff.2 hm, if_neg (by decide), fA_not hc, if_neg (by decide), LcN_len, if_neg (by omega)]
  · unfold opM
    have e : opK (LcN c M N) (an c) = (LcN c M N).length := by
      unfold opK
      rw [takeW_all fun x hx => ?_]
      obtain ⟨k, hk, rfl⟩ := List.mem_map.1 hx
      exact decide_eq_true (an_lt (List.mem_range.1 hk) hc)
    rw [e, List.take_length, List.drop_length, LcN_succ, hn]
/-! ### the offers -/
def of1 (v w : Nat → Int) (i : Nat) : Dl := (an (i + 1), an 0, 0, 0, v i, w i, ())
def OfN (n : Nat) (v w : Nat → Int) : List Dl := (List.range n).map (of1 v w)
theorem OfN_len {n : Nat} {v w : Nat → Int} : (OfN n v w).length = n := by unfold OfN; simp
theorem OfN_get {n : Nat} {v w : Nat → Int} {i : Nat} (h : i < n) : (OfN n v w)[i]? = some (of1 v w i) := by
  unfold OfN; rw [List.getElem?_map, List.getElem?_range h]; rfl
theorem OfN_getD {n : Nat} {v w : Nat → Int} {i : Nat} (h : i < n) : (OfN n v w).getD i d0 = of1 v w i := by
  rw [List.getD_eq_getElem?_getD, OfN_get h]; rfl
theorem OfN_succ {n : Nat} {v w : Nat → Int} : OfN (n + 1) v w = OfN n v w ++ [of1 v w n] := by
  unfold OfN; rw [List.range_succ, List.map_append]; rfl
theorem OfN_L {n : Nat} {v w : Nat → Int} (h : n ≤ 5) : DlL (OfN n v w) := ⟨by rw [OfN_len]; omega, fun d hd => by
  obtain ⟨k, hk, rfl⟩ := List.mem_map.1 hd
  show (an (k + 1)).length ≤ _
  unfold an; simp, fun d hd => by
  obtain ⟨k, hk, rfl⟩ := List.mem_map.1 hd
  show (an 0).length ≤ _
  unfold an; simp⟩
/-- What items weigh and are worth. -/
structure VW (n : Nat) (v w : Nat → Int) : Prop where
  n : n ≤ 5
  v : ∀ i, 0 ≤ v i ∧ v i ≤ 50
  w : ∀ i, 1 ≤ w i ∧ w i ≤ 100
theorem dlE_of {n : Nat} {v w : Nat → Int} (h : VW n v w) {i : Nat} (hi : i < 5) : dlE (of1 v w i) = 0 := by
  have h1 := h.v i
  have h2 := h.w i
  unfold dlE
  show (if nmB (an (i + 1)) = false ∨ nmB (an 0) = false ∨ an (i + 1) = an 0 then (3 : Int) else if (wiB 0 && (wiB 0 && (wiB (v i) && true))) = false ∨ w i < 1 ∨ 100 < w i then 1 else 0) = 0
  rw [if_neg, wiB_iff.2 (show 0 ≤ v i ∧ v i ≤ 1000000 by omega), if_neg]
  · rintro (q | q | q)
    · exact absurd q (by decide)
    · omega
    · omega
  · rintro (q | q | q)
    · rw [an_nm (by omega)] at q; cases q
    · rw [an_nm (by omega)] at q; cases q
    · have := (an_inj (by omega) (by omega)).1 q; omega
theorem fD_none {m n : Nat} {v w : Nat → Int} {i : Nat} {a : Int} (hm : m ≤ i) (hi : i < 5) : fD (OfN m v w) (an (i + 1)) a = -1 := by
  unfold fD
  refine fidxN _ _ fun x hx => ?_
  obtain ⟨k, hk, rfl⟩ := List.mem_map.1 hx
  have hk := List.mem_range.1 hk
  unfold tD
  rw [decide_eq_false (fun e => ?_), Bool.false_and]
  have := (an_inj (i := k + 1) (k := i + 1) (by omega) (by omega)).1 e
  omega
theorem OfN_take {n : Nat} {v w : Nat → Int} {k : Nat} (h : k ≤ n) : (OfN n v w).take k = OfN k v w := by
  unfold OfN; rw [← List.map_take, List.take_range, Nat.min_eq_left h]
theorem ofR_OfN {n : Nat} {v w : Nat → Int} (h : VW n v w) : ∀ m k, k + m = n → ofR (OfN n v w) m k = 0
  | 0, k, _ => rfl
  | m + 1, k, hk => by
    have hn := h.n
    unfold ofR
    rw [OfN_getD (by omega), dlE_of h (by omega), if_neg (by decide), OfN_take (by omega)]
    show (if 0 ≤ fD (OfN k v w) (an (k + 1)) 0 then (7 : Int) else _) = 0
    rw [fD_none (n := n) (Nat.le_refl _) (by omega), if_neg (by decide)]
    exact ofR_OfN h m (k + 1) (by omega)
theorem ofE_OfN {n : Nat} {v w : Nat → Int} (h : VW n v w) : ofE (OfN n v w) = 0 := by
  have hn := h.n
  unfold ofE
  rw [if_neg (by rw [OfN_len]; omega), OfN_len]
  exact ofR_OfN h n 0 (by omega)
theorem VW.le {n m : Nat} {v w : Nat → Int} (h : VW n v w) (hm : m ≤ n) : VW m v w := ⟨by have := h.n; omega, h.v, h.w⟩
theorem ad_OfN {n : Nat} {v w : Nat → Int} (h : VW n v w) {k : Nat} (hk : k < n) : adE (OfN k v w) (of1 v w k) = 0 ∧ adM (OfN k v w) (of1 v w k) = OfN (k + 1) v w := by
  have hn := h.n
  have hf : fD (OfN k v w) (of1 v w k).1 (of1 v w k).2.2.1 = -1 := fD_none (n := n) (Nat.le_refl _) (by omega)
  constructor
  · unfold adE
    rw [ofE_OfN (h.le (by omega)), if_neg (by decide), dlE_of h (by omega), if_neg (by decide), hf, if_neg (by decide), OfN_len, if_neg (by omega)]
  · unfold adM
    rw [hf, if_neg (by decide), OfN_succ]
/-! ### taking in -/
def Mo (v : Nat → Int) (o : Nat → Bool) (S : Int) : Nat → Int
  | 0 => S
  | i + 1 => if o i = true then 100 - v i else 100
def No (o : Nat → Bool) : Nat → Int
  | 0 => 0
  | i + 1 => if o i = true then 1 else 0
theorem Mo_s {v : Nat → Int} {o : Nat → Bool} {S : Int} {i : Nat} : Mo v o S (i + 1) = if o i = true then 100 - v i else 100 := rfl
theorem No_s {o : Nat → Bool} {i : Nat} : No o (i + 1) = if o i = true then 1 else 0 := rfl
/-- The accounts when the offers of o have been taken in, for fees of S. -/
abbrev Lo (n : Nat) (v : Nat → Int) (o : Nat → Bool) (S : Int) : List Ac := LcN (n + 1) (Mo v o S) (No o)
theorem wid_o {n : Nat} {v w : Nat → Int} (h : VW n v w) {o : Nat → Bool} {S : Int} (hS : 0 ≤ S ∧ S ≤ 1000000) (c : Nat) : Wid c (Mo v o S) (No o) := ⟨fun k _ => by
  cases k with
  | zero => exact hS
  | succ i => have := h.v i; rw [Mo_s]; split <;> omega, fun k _ => by
  cases k with
  | zero => exact ⟨Int.le_refl 0, show (0 : Int) ≤ 1000000 by decide⟩
  | succ i => rw [No_s]; split <;> omega⟩
theorem tkM_Lo {n : Nat} {v w : Nat → Int} (h : VW n v w) {o : Nat → Bool} {S : Int} {i : Nat} (hi : i < n) (ho : o i = false) : tkM (Lo n v o S) (of1 v w i) (an 0) = Lo n v (setO o i) (S + v i) := by
  have hn := h.n
  unfold tkM Lo LcN
  rw [List.map_map]
  refine List.map_congr_left fun k hk => ?_
  have hk := List.mem_range.1 hk
  show if3 (of1 v w i) (an 0) (if2 (of1 v w i) (if1 (of1 v w i) (an k, Mo v o S k, No o k, ()))) = _
  have e0 : (of1 v w i).1 = an (i + 1) := rfl
  have e1 : (of1 v w i).2.1 = an 0 := rfl
  have c1 : an k = an (i + 1) ↔ k = i + 1 := an_inj (by omega) (by omega)
  have c2 : an k = an 0 ↔ k = 0 := an_inj (by omega) (by omega)
  unfold if3 if2 if1
  by_cases k1 : k = i + 1
  · have n0 : ¬ an k = an 0 := fun e => by have := c2.1 e; omega
    rw [if_pos (show (an k, Mo v o S k, No o k, ()).1 = (of1 v w i).1 from c1.2 k1)]
    have e2 : (pay1 (of1 v w i) (an k, Mo v o S k, No o k, ())).1 = an k := rfl
    rw [if_neg (show ¬ (pay1 (of1 v w i) (an k, Mo v o S k, No o k, ())).1 = (of1 v w i).2.1 from n0), if_neg (show ¬ (pay1 (of1 v w i) (an k, Mo v o S k, No o k, ())).1 = an 0 from n0)]
    subst k1
    show (an (i + 1), Mo v o S (i + 1) - (0 + v i), No o (i + 1) + 1, ()) = (an (i + 1), Mo v (setO o i) (S + v i) (i + 1), No (setO o i) (i + 1), ())
    have m1 : Mo v o S (i + 1) = 100 := by rw [Mo_s, ho, if_neg (by decide)]
    have m2 : Mo v (setO o i) (S + v i) (i + 1) = 100 - v i := by rw [Mo_s]; unfold setO; rw [if_pos (if_pos rfl)]
    have m3 : No o (i + 1) = 0 := by rw [No_s, ho, if_neg (by decide)]
    have m4 : No (setO o i) (i + 1) = 1 := by rw [No_s]; unfold setO; rw [if_pos (if_pos rfl)]
    rw [m1, m2, m3, m4, Int.zero_add]; rfl
  · have n1 : ¬ an k = an (i + 1) := fun e => k1 (c1.1 e)
    rw [if_neg (show ¬ (an k, Mo v o S k, No o k, ()).1 = (of1 v w i).1 from n1)]
    by_cases k0 : k = 0
    · subst k0
      rw [if_pos (show (an 0, Mo v o S 0, No o 0, ()).1 = (of1 v w i).2.1 from rfl), if_pos (show (pay2 (of1 v w i) (an 0, Mo v o S 0, No o 0, ())).1 = an 0 from rfl)]
      show (an 0, (S + 0) + v i, (0 : Int), ()) = (an 0, S + v i, (0 : Int), ())
      rw [Int.add_zero]
    · have n0 : ¬ an k = an 0 := fun e => k0 (c2.1 e)
      rw [if_neg (show ¬ (an k, Mo v o S k, No o k, ()).1 = (of1 v w i).2.1 from n0), if_neg (show ¬ (an k, Mo v o S k, No o k, ()).1 = an 0 from n0)]
      obtain ⟨j, rfl⟩ : ∃ j, k = j + 1 := ⟨k - 1, by omega⟩
      have hs : setO o i j = o j := by unfold setO; rw [if_neg (by omega)]
      show (an (j + 1), Mo v o S (j + 1), No o (j + 1), ()) = (an (j + 1), Mo v (setO o i) (S + v i) (j + 1), No (setO o i) (j + 1), ())
      rw [Mo_s, No_s, Mo_s, No_s, hs]
theorem tkE_Lo {n : Nat} {v w : Nat → Int} (h : VW n v w) {o : Nat → Bool} {S : Int} (hS : 0 ≤ S ∧ S ≤ 100000) {i : Nat} (hi : i < n) : decide (tkE (Lo n v o S) (of1 v w i) (an 0) = 0) = !(o i) := by
  have hn := h.n
  have hv := h.v i
  have f1 : fA (Lo n v o S) (of1 v w i).1 = ((i + 1 : Nat) : Int) := fA_LcN (by omega) (by omega)
  have f2 : fA (Lo n v o S) (of1 v w i).2.1 = ((0 : Nat) : Int) := fA_LcN (by omega) (by omega)
  have f3 : fA (Lo n v o S) (an 0) = ((0 : Nat) : Int) := fA_LcN (by omega) (by omega)
  have g : (Lo n v o S).getD (i + 1) ([], 0, 0, ()) = (an (i + 1), Mo v o S (i + 1), No o (i + 1), ()) := by
    rw [List.getD_eq_getElem?_getD, LcN_get (by omega)]; rfl
  unfold tkE
  rw [acE_LcN (by omega) (wid_o h (by omega) _), if_neg (by decide), dlE_of h (by omega), if_neg (by decide), f1, f2, f3, if_neg (by omega), Int.toNat_natCast, g]
  show decide ((if (0 : Int) ≠ No o (i + 1) then (6 : Int) else if Mo v o S (i + 1) < 0 + v i then 11 else if acE (tkM (Lo n v o S) (of1 v w i) (an 0)) ≠ 0 then 8 else 0) = 0) = _
  cases ho : o i with
  | true =>
    have e : No o (i + 1) = 1 := by rw [No_s, ho, if_pos rfl]
    rw [e, if_pos (by decide)]; rfl
  | false =>
    have e : No o (i + 1) = 0 := by rw [No_s, ho, if_neg (by decide)]
    have e2 : Mo v o S (i + 1) = 100 := by rw [Mo_s, ho, if_neg (by decide)]
    rw [e, e2, if_neg (by decide), if_neg (by omega), tkM_Lo h hi ho, acE_LcN (by omega) (wid_o h (by omega) _), if_neg (by decide)]; rfl
/-! ### the best -/
theorem bF_gB {l : List It} (h : VW l.length (vA l) (wA l)) {o : Nat → Bool} {S r : Int} (hS : 0 ≤ S ∧ S ≤ 100000) : ∀ k, k ≤ l.length → bF (OfN l.length (vA l) (wA l)) (Lo l.length (vA l) o S) (an 0) r k = gB l o r k
  | 0, _ => rfl
  | k + 1, hk => by
    have ih := bF_gB h (r := r) (o := o) hS k (by omega)
    have hr := gB_range (l := l) (o := o) (r := r) k
    unfold bF
    rw [ih, OfN_getD (by omega)]
    have e1 : elg (Lo l.length (vA l) o S) (an 0) r (of1 (vA l) (wA l) k) = eA l o r k := by
      unfold elg eA
      rw [tkE_Lo h hS (by omega), Bool.and_comm]; rfl
    rw [e1]
    show _ = if eA l o r k = true ∧ (gB l o r k < 0 ∨ vA l (gB l o r k).toNat * wA l k < vA l k * wA l (gB l o r k).toNat) then (k : Int) else gB l o r k
    rcases hr with hr | ⟨j, hr, hj, _, _⟩
    · rw [hr]
      by_cases c : eA l o r k = true
      · rw [if_pos ⟨c, .inl (by decide)⟩, if_pos ⟨c, .inl (by decide)⟩]
      · rw [if_neg (fun e => c e.1), if_neg (fun e => c e.1)]
    · rw [hr, Int.toNat_natCast]
      have e2 : at0 (OfN l.length (vA l) (wA l)) (j : Int) = of1 (vA l) (wA l) j := by
        unfold at0; rw [Int.toNat_natCast]; exact OfN_getD (by omega)
      rw [e2]; rfl
theorem nx_gB {l : List It} (h : VW l.length (vA l) (wA l)) {o : Nat → Bool} {S r : Int} (hS : 0 ≤ S ∧ S ≤ 100000) (hr : 0 ≤ r ∧ r ≤ 1000) : nxE (OfN l.length (vA l) (wA l)) (Lo l.length (vA l) o S) (an 0) r = (if gB l o r l.length < 0 then 4 else 0) ∧ (0 ≤ gB l o r l.length → nxK (OfN l.length (vA l) (wA l)) (Lo l.length (vA l) o S) (an 0) r = gB l o r l.length) := by
  have hn := h.n
  have hE : nxE (OfN l.length (vA l) (wA l)) (Lo l.length (vA l) o S) (an 0) r = (if gB l o r l.length < 0 then 4 else 0) := by
    unfold nxE
    rw [ofE_OfN h, if_neg (by decide), acE_LcN (by omega) (wid_o h (by omega) _), if_neg (by decide), if_neg (by omega), OfN_len, bF_gB h hS _ (Nat.le_refl _)]
  refine ⟨hE, fun c => ?_⟩
  unfold nxK
  rw [if_neg (by omega)] at hE
  rw [hE, if_pos rfl, OfN_len, bF_gB h hS _ (Nat.le_refl _)]
theorem gF_mono {l : List It} {k : Nat} : ∀ (f : Nat) (o : Nat → Bool) (r s : Int), o k = true → (gF l f o r s).1 k = true
  | 0, o, r, s, h => h
  | f + 1, o, r, s, h => by
    unfold gF
    split
    · exact h
    · exact gF_mono f _ _ _ (by unfold setO; split <;> first | rfl | exact h)
structure Got (l : List It) (o o' : Nat → Bool) (S S' : Int) (T : List Int) : Prop where
  nd : T.Nodup
  mem : ∀ x, x ∈ T ↔ ∃ k : Nat, x = k ∧ k < l.length ∧ o' k = true ∧ o k = false
  fee : S + feeS (OfN l.length (vA l) (wA l)) T = S'
  S0 : S ≤ S'
  len : T.length ≤ l.length
theorem bld_gF {l : List It} (h : VW l.length (vA l) (wA l)) : ∀ (f F : Nat) (o : Nat → Bool) (r S : Int), (fl l.length (notO o)).length + 1 = f → f ≤ F → (0 ≤ r ∧ r ≤ 1000) → 0 ≤ S → S + 100 * f ≤ 100000 → ∃ T, bld (OfN l.length (vA l) (wA l)) (an 0) F (Lo l.length (vA l) o S) r = (T, Lo l.length (vA l) (gF l f o r S).1 (gF l f o r S).2) ∧ Got l o (gF l f o r S).1 S (gF l f o r S).2 T ∧ T.length + 1 ≤ f
  | 0, F, o, r, S, hf, _, _, _, _ => by omega
  | f + 1, F, o, r, S, hf, hF, hr, hS, hS2 => by
    obtain ⟨hE, hK⟩ := nx_gB h (o := o) (S := S) (r := r) (by omega) hr
    have hu : gF l (f + 1) o r S = if gB l o r l.length < 0 then (o, S) else gF l f (setO o (gB l o r l.length).toNat) (r - wA l (gB l o r l.length).toNat) (S + vA l (gB l o r l.length).toNat) := rfl
    rcases gB_range (l := l) (o := o) (r := r) l.length with hg | ⟨j, hg, hj, hoj, hwj⟩
    · rw [hg, if_pos (by decide)] at hu hE
      rw [hu, bld_end (by rw [hE]; decide)]
      refine ⟨[], rfl, ⟨List.nodup_nil, fun x => ⟨fun e => (by cases e), fun ⟨k, _, _, h1, h2⟩ => (by dsimp only at h1; rw [h2] at h1; cases h1)⟩, ?_, Int.le_refl _, by simp⟩, by simp⟩
      show S + 0 = S
      rw [Int.add_zero]
    · have hK := hK (by omega)
      rw [hg] at hu hE hK
      rw [if_neg (by omega), Int.toNat_natCast] at hu
      rw [if_neg (by omega)] at hE
      obtain ⟨F', rfl⟩ : ∃ F', F = F' + 1 := ⟨F - 1, by omega⟩
      have e2 : at0 (OfN l.length (vA l) (wA l)) (nxK (OfN l.length (vA l) (wA l)) (Lo l.length (vA l) o S) (an 0) r) = of1 (vA l) (wA l) j := by
        rw [hK]; unfold at0; rw [Int.toNat_natCast]; exact OfN_getD hj
      have e3 : at0 (OfN l.length (vA l) (wA l)) (j : Int) = of1 (vA l) (wA l) j := by
        unfold at0; rw [Int.toNat_natCast]; exact OfN_getD hj
      have hv := h.v j
      have hw := h.w j
      have hfs := fl_setO hj hoj
      obtain ⟨T, hT, hG, hTl⟩ := bld_gF h f F' (setO o j) (r - wA l j) (S + vA l j) (by omega) (by omega) (by omega) (by omega) (by omega)
      rw [bld_step hE hK e2, tkM_Lo h hj hoj, hu]
      have hsz : siz (of1 (vA l) (wA l) j) = wA l j := rfl
      rw [hsz, hT]
      have hm := gF_mono (l := l) (k := j) f (setO o j) (r - wA l j) (S + vA l j) (by unfold setO; rw [if_pos rfl])
      have hm2 := fun k hk => gF_mono (l := l) (k := k) f (setO o j) (r - wA l j) (S + vA l j) hk
      generalize gF l f (setO o j) (r - wA l j) (S + vA l j) = G at *
      have hjn : (j : Int) ∉ T := fun e => by
        obtain ⟨k, e1, _, _, e2⟩ := (hG.mem _).1 e
        obtain rfl : j = k := by omega
        unfold setO at e2; rw [if_pos rfl] at e2; cases e2
      refine ⟨(j : Int) :: T, rfl, ⟨List.nodup_cons.2 ⟨hjn, hG.nd⟩, fun x => ?_, ?_, by have := hG.S0; omega, ?_⟩, by rw [List.length_cons]; omega⟩
      · rw [List.mem_cons, hG.mem]
        constructor
        · rintro (e | ⟨k, e, hk, h1, h2⟩)
          · exact ⟨j, e, hj, hm, hoj⟩
          · refine ⟨k, e, hk, h1, ?_⟩
            unfold setO at h2
            split at h2
            · cases h2
            · exact h2
        · rintro ⟨k, e, hk, h1, h2⟩
          by_cases c : k = j
          · subst c; exact .inl e
          · exact .inr ⟨k, e, hk, h1, by unfold setO; rw [if_neg c]; exact h2⟩
      · show S + (fee (at0 _ (j : Int)) + feeS _ T) = _
        rw [e3]
        have := hG.fee
        have ef : fee (of1 (vA l) (wA l) j) = vA l j := rfl
        rw [ef]; omega
      · have hle := fl_len (n := l.length) (f := notO o)
        rw [List.length_cons]; omega
/-! ### the whole -/
/-- What is taken in, of these offers, is what is packed greedily. -/
theorem build_greedy {l : List It} (h : VW l.length (vA l) (wA l)) {r : Int} (hr : 0 ≤ r ∧ r ≤ 1000) : ∃ T, bdE (OfN l.length (vA l) (wA l)) (Lo l.length (vA l) (fun _ => false) 0) (an 0) r = 0 ∧ bT (OfN l.length (vA l) (wA l)) (Lo l.length (vA l) (fun _ => false) 0) (an 0) r = T
    ∧ bA (OfN l.length (vA l) (wA l)) (Lo l.length (vA l) (fun _ => false) 0) (an 0) r = Lo l.length (vA l) (gF l (l.length + 1) (fun _ => false) r 0).1 (gF l (l.length + 1) (fun _ => false) r 0).2
    ∧ (T.mergeSort fun x y => decide (x ≤ y)) = fl l.length (gF l (l.length + 1) (fun _ => false) r 0).1 ∧ feeS (OfN l.length (vA l) (wA l)) T = (gF l (l.length + 1) (fun _ => false) r 0).2 ∧ T.length ≤ l.length
    ∧ 0 ≤ (gF l (l.length + 1) (fun _ => false) r 0).2 := by
  have hn := h.n
  have hfl0 : (fl l.length (notO fun _ => false)).length = l.length := by
    rw [show fl l.length (notO fun _ => false) = fl l.length fun _ => true from fl_congr fun _ _ => rfl, fl_true]; simp
  obtain ⟨hE, _⟩ := nx_gB h (o := fun _ => false) (S := 0) (r := r) (by omega) hr
  have h0 : bdE (OfN l.length (vA l) (wA l)) (Lo l.length (vA l) (fun _ => false) 0) (an 0) r = 0 := by
    unfold bdE
    rw [hE]
    by_cases c : gB l (fun _ => false) r l.length < 0
    · rw [if_pos c, if_pos (.inr rfl)]
    · rw [if_neg c, if_pos (.inl rfl)]
  obtain ⟨T, hT, hG, _⟩ := bld_gF h (l.length + 1) 1001 (fun _ => false) r 0 (by rw [hfl0]) (by omega) hr (by omega) (by omega)
  refine ⟨T, h0, ?_, ?_, ?_, by have := hG.fee; omega, hG.len, hG.S0⟩
  · unfold bT bdT; rw [if_pos h0, hT]
  · unfold bA bdL; rw [if_pos h0, hT]
  · refine sort_fl hG.nd fun x => ?_
    rw [hG.mem]
    exact ⟨fun ⟨k, a, b, c, _⟩ => ⟨k, a, b, c⟩, fun ⟨k, a, b, c⟩ => ⟨k, a, b, c, rfl⟩⟩
theorem dk_bound : ∀ R : List Str, (∀ s ∈ R, s.length ≤ 64) → (dk R).length ≤ 67 * R.length
  | [], _ => by simp [dk]
  | s :: R, h => by
    have h1 := h s (List.mem_cons_self ..)
    have h2 := dk_bound R fun x hx => h x (List.mem_cons_of_mem _ hx)
    rw [dk, List.length_append, frm_length, List.length_cons]; omega
theorem on_ok {c : Nat} {M N : Nat → Int} (hc : c < 6) (h : Wid c M N) (hm : 0 ≤ M c ∧ M c ≤ 1000000) (hn : N c = 0) {k : Str} (hk : k.length ≤ 1000) : onE (LcN c M N) k (an c) (M c) = 0 ∧ onA (LcN c M N) k (an c) (M c) = LcN (c + 1) M N ∧ (onD (LcN c M N) k (an c) (M c)).length ≤ k.length + 23 := by
  obtain ⟨h1, h2⟩ := op_LcN hc h hm hn
  have h3 := recO_len (an_nm hc) hm
  have h4 : onE (LcN c M N) k (an c) (M c) = 0 := by
    unfold onE appE
    rw [if_neg (by rw [h1]; decide), if_neg (by omega), if_neg (by omega)]
  refine ⟨h4, ?_, ?_⟩
  · unfold onA; rw [if_pos h4, h2]
  · unfold onD; rw [if_pos h4, List.length_append, frm_length]; omega
theorem bu_ok {l : List It} (h : VW l.length (vA l) (wA l)) {r : Int} {T : List Int} {A : List Ac} {S : Int} (e1 : bdE (OfN l.length (vA l) (wA l)) (Lo l.length (vA l) (fun _ => false) 0) (an 0) r = 0) (e2 : bT (OfN l.length (vA l) (wA l)) (Lo l.length (vA l) (fun _ => false) 0) (an 0) r = T)
    (e3 : bA (OfN l.length (vA l) (wA l)) (Lo l.length (vA l) (fun _ => false) 0) (an 0) r = A) (e4 : feeS (OfN l.length (vA l) (wA l)) T = S) (e5 : T.length ≤ l.length) {k : Str} (hk : k.length ≤ 1000) :
    buE (OfN l.length (vA l) (wA l)) (Lo l.length (vA l) (fun _ => false) 0) k (an 0) r = 0 ∧ buA (OfN l.length (vA l) (wA l)) (Lo l.length (vA l) (fun _ => false) 0) k (an 0) r = A
    ∧ buN (OfN l.length (vA l) (wA l)) (Lo l.length (vA l) (fun _ => false) 0) k (an 0) r = T.length ∧ buM (OfN l.length (vA l) (wA l)) (Lo l.length (vA l) (fun _ => false) 0) k (an 0) r = S := by
  have hn := h.n
  have hb := dk_bound (rk (OfN l.length (vA l) (wA l)) (an 0) T) fun s hs => by
    obtain ⟨x, hx, rfl⟩ := List.mem_map.1 hs
    rw [← e2] at hx
    exact str_len (r := .d (at0 (OfN l.length (vA l) (wA l)) x) (an 0)) ⟨at_ok (ofE_OfN h) (bT_mem x hx), an_nm (by decide)⟩
  have hl : (rk (OfN l.length (vA l) (wA l)) (an 0) T).length = T.length := List.length_map ..
  have hE : buE (OfN l.length (vA l) (wA l)) (Lo l.length (vA l) (fun _ => false) 0) k (an 0) r = 0 := by
    unfold buE
    rw [if_neg (by rw [fA_LcN (k := 0) (by omega) (by omega)]; decide), if_neg (by rw [e1]; decide), e2, if_neg (by omega)]
  refine ⟨hE, ?_, ?_, ?_⟩
  · unfold buA; rw [if_pos hE, e3]
  · unfold buN; rw [if_pos hE, e2]
  · unfold buM; rw [if_pos hE, e2, e4]
end Go.Proofs.YtkkcnppgcnmikaaGreatDoor

/- Items out of any numbers, walked. -/
namespace FM
open Go Go.RowKit
section
variable {S : Sys} {σ : St} {d : Nat} {ty : Nat} {pos : String} {aft : Array Edge} {g : Option (Nat × Bool)}
theorem s_add8c {t t2 a : Nat} {x y : Operand} (hx : ov σ x = .av (.val (.int .u8 98))) (hy : ov σ y = .av (u8 (a % 256))) (ha : a < 100) : Step S ⟨some d, .binOp .add t x y t2, ty, pos, aft, g⟩ σ (σ.put d (.av (u8 (98 + a)))) :=
  s_binV hx hy rfl ⟨_, fun _ _ => .val, fun w => by
    have e : (98 : Int) + ((a % 256 : Nat) : Int) = ((98 + a : Nat) : Int) := by omega
    simp only [eqGuard, binOp, Sem.run_bind]
    have e2 : IntKind.u8.wrap ((98 : Int) + ((a % 256 : Nat) : Int)) = ((98 + a : Nat) : Int) := by rw [e, wrap_u8 (by omega)]
    exact congrArg (fun z => Result.ok (Value.int .u8 z) w) e2⟩
theorem w_ixaA {α : Type} {f : α → AV} {l : List α} {r : α} {t e m sz by_ s : Nat} {z : List AV} {ti : TI} {i : Operand} {n : Int} (hs : get σ s = .av (.pt true (l.map f))) (hi : ov σ i = .av (.int n)) (hT : S.T t = some ⟨.arr m e, sz, by_, z⟩) (hE : S.T e = some ti) (hc : Nat.beq ti.size 1 = true) (h0 : 0 ≤ n) (hr : l[n.toNat]? = some r) (h1 : (f r).cells = [f r]) (hm : n.toNat < m) (hsd : Nat.beq s d = false) :
    StepW S ⟨some d, .indexAddr t (.tmp s) i, ty, pos, aft, g⟩ σ (σ.put d (.fpt s n.toNat (f r))) := by
  intro w0 L0 N a w hN ⟨L, hR⟩
  have hh := hR.hold s (own_lt hR hs (by simp))
  rw [hs] at hh
  simp only [Hold] at hh
  obtain ⟨b, hL, hp, _, hcs⟩ := pt_at hh
  have hev : a.eval (.tmp s) = .pointer (some ⟨b, 0, none⟩) := hp
  have hsz := (S.ok e _ hE).size
  rw [Nat.eq_of_beq_eq_true hc] at hsz
  refine ⟨.pointer (some ⟨b, 0 + n.toNat * 1, none⟩), fun w' => ?_, Rel.putPlain (n := d) hR (hN d rfl) rfl hsd ⟨b, hL, by simp, fun _ j z hz => ?_⟩⟩
  · simp only [execOp, hev, ev_int hR hi, Sem.run_bind, run_indexArr (S.ok t _ hT).arr hsz h0 hm]; rfl
  · rw [h1] at hz
    cases j with
    | zero =>
      simp only [List.getElem?_cons_zero, Option.some.injEq] at hz; subst hz
      simpa using hcs n.toNat (f r) (by rw [List.getElem?_map, hr]; rfl)
    | succ j => simp at hz
end
end FM
namespace Go.Proofs.YtkkcnppgcnmikaaGreatDoor
open Go FM Go.Proofs
set_option maxRecDepth 10000
set_option maxHeartbeats 3200000
set_option linter.all false
def itg (x : It) : It := (1 + x.1 % 20, x.2.1 % 50, ())
theorem itg_take {l : List It} {k : Nat} (h : k < l.length) : ((l.take (k + 1)).map itg).map it = ((l.take k).map itg).map it ++ [.agg [.int (1 + l[k].1 % 20), .int (l[k].2.1 % 50)]] := by
  rw [List.take_succ_eq_append_getElem h, List.map_append, List.map_append]; rfl
theorem itemsOf_spec (l : List It) (hl : l.length ≤ 9223372036854775807) : FnSpec Sy.P 18 [its l] [its l] (.sl true 2 (((l.take (min (l.length : Int) 12).toNat).map itg).map it)) := by
  refine FnSpec.enter (S := Sy) 0 Tryz.func18 rfl rfl rfl Tryz.ntmps18 rfl rfl rfl rfl fun v0 => ?_
  (repeat' (first | refine w9x ?_ | (refine w9c ?_ ?_ <;> intro _ <;> try exact w9o) | (refine w9d ?_ ?_ <;> intro _ <;> try exact w9s) | (refine w9q ?_; intro bnil hbnil)))
  all_goals first | (exfalso; omega) | skip
  refine CW.own 3 2 rfl ?_
  refine CW.loop (fun k : Nat => [(0, .av (its l)), (3, .av (.sl true 2 ((((l.take (min (l.length : Int) 12).toNat).take k).map itg).map it))), (10, .av (its (l.take (min (l.length : Int) 12).toNat))), (11, .av (.int ((l.take (min (l.length : Int) 12).toNat).length))), (12, .av (.int (k)))]) (fun k => k ≤ (l.take (min (l.length : Int) 12).toNat).length) (fun k => (l.take (min (l.length : Int) 12).toNat).length - k) (0) ?_ (by (repeat' (first | exact trivial | rfl | refine And.intro ?_ ?_ | exact int_congr (by omega) | exact int_congr (by dsimp only; omega) | exact ints_congr (by first | assumption | exact Eq.symm (by assumption)) | exact int_congr (by assumption) | exact bool_congr (by first | assumption | exact Eq.symm (by assumption)) | exact map_congr' (by first | assumption | exact Eq.symm (by assumption)) | exact congrArg (fun y => TV.av (AV.sl false 2 y)) (List.map_take ..).symm))) ?_
  · exact Nat.zero_le _
  intro k hk
  have ht : (l.take (min (l.length : Int) 12).toNat).length ≤ 12 := by rw [List.length_take]; omega
  generalize l.take (min (l.length : Int) 12).toNat = L at *
  by_cases hkl : k < L.length
  · have hx : L[k]? = some L[k] := List.getElem?_eq_getElem hkl
    have hw1 := W.within_spec L[k].1 20 (by decide)
    have hw2 := W.within_spec L[k].2.1 50 (by decide)
    have hs := itg_take hkl
    have hn : (((L.take k).map itg).map it).length ≤ 12 := by rw [List.length_map, List.length_map, List.length_take]; omega
    generalize ((L.take k).map itg).map it = B at *
    generalize L[k] = x at *
    obtain ⟨a, b, ⟨⟩⟩ := x
    dsimp only at hw1 hw2 hs
    (repeat' (first | ((with_reducible refine w9i ?_); first | ((apply JA.take (fuel := 11) (i := 0)); rfl; exact .inl rfl; rfl; kernel_rfl; exact FM.st) | ((apply JA.takeW (fuel := 10) (i := 1)); rfl; rfl; kernel_rfl; exact (by first | ((with_reducible apply w_ixaSh) <;> exact w9l) | exact w_ixaA (l := [a, b]) (f := AV.int) rfl rfl rfl rfl rfl (by decide) rfl rfl (by decide) rfl)) | ((apply JA.takeW (fuel := 9) (i := 5)); rfl; rfl; kernel_rfl; exact (by first | ((with_reducible apply w_ixaSh) <;> exact w9l) | exact w_ixaA (l := [a, b]) (f := AV.int) rfl rfl rfl rfl rfl (by decide) rfl rfl (by decide) rfl)) | ((apply JA.two (fuel := 8) (i := 2) (j := 6)); kernel_rfl; rfl; rfl) | ((apply JA.two (fuel := 7) (i := 3) (j := 6)); decide +kernel; rfl; rfl) | ((apply JA.one (fuel := 7) (i := 2)); decide +kernel; rfl) | ((apply JA.takeW (fuel := 6) (i := 4)); rfl; rfl; decide +kernel; exact (by first | ((with_reducible apply w_strAdd) <;> (first | rfl | exact w9l)) | ((with_reducible apply w_add) <;> (first | rfl | exact InR.mk (by omega))))) | ((apply JA.one (fuel := 6) (i := 3)); decide +kernel; rfl) | ((apply JA.one (fuel := 5) (i := 6)); decide +kernel; rfl) | ((apply JA.takeW (fuel := 5) (i := 4)); rfl; rfl; decide +kernel; exact (by first | ((with_reducible apply w_strAdd) <;> (first | rfl | exact w9l)) | ((with_reducible apply w_add) <;> (first | rfl | exact InR.mk (by omega))))) | ((apply JA.one (fuel := 4) (i := 7)); kernel_rfl; rfl) | ((apply JA.one (fuel := 3) (i := 8)); kernel_rfl; rfl) | ((apply JA.one (fuel := 2) (i := 9)); kernel_rfl; rfl) | ((apply JA.one (fuel := 1) (i := 10)); kernel_rfl; rfl) | ((apply JA.take (fuel := 0) (i := 11)); rfl; exact .inr rfl; rfl; kernel_rfl; exact FM.st) | ((apply JA.done (fuel := 0)); kernel_rfl)) | ((refine CW.regU 0 12 ?_ (List.replicate 0 true ++ List.replicate 12 false) ?_ ?_ ?_); rfl; kernel_rfl; rfl; simp only [List.take_succ_cons, List.take_zero]) | ((with_reducible apply J.step); rfl; (exact s_ixaA (l := [a, b]) (f := AV.int) rfl rfl rfl rfl rfl (by decide) rfl rfl (by decide) rfl)) | refine w9x ?_ | refine w9p (hw1) ?_ | refine w9p (hw2) ?_ | (refine w9c ?_ ?_ <;> intro _ <;> try exact w9o) | (refine w9d ?_ ?_ <;> intro _ <;> try exact w9s) | (refine w9q ?_; intro bnil hbnil)))
    all_goals first | (exfalso; omega) | skip
    all_goals
      refine ⟨k+1, ?_, by first | omega | (simp only; omega), by (repeat' (first | exact trivial | rfl | refine And.intro ?_ ?_ | exact int_congr (by omega) | exact int_congr (by dsimp only; omega) | exact ints_congr (by first | assumption | exact Eq.symm (by assumption)) | exact int_congr (by assumption) | exact bool_congr (by first | assumption | exact Eq.symm (by assumption)) | exact map_congr' (by first | assumption | exact Eq.symm (by assumption)) | exact congrArg (fun y => TV.av (AV.sl true 2 y)) hs.symm))⟩
      omega
  · obtain rfl : k = L.length := by omega
    rw [List.take_length]
    (repeat' (first | refine w9x ?_ | (refine w9c ?_ ?_ <;> intro _ <;> try exact w9o) | (refine w9d ?_ ?_ <;> intro _ <;> try exact w9s) | (refine w9q ?_; intro bnil hbnil)))
    all_goals first | (exfalso; omega) | exact .mk rfl rfl rfl
end Go.Proofs.YtkkcnppgcnmikaaGreatDoor
