/- Trades: who could do better among themselves: one by one (the program), by all orders (the reference). No program in sight. -/
import Derived.Test.YtohgcgedbhlnfaaYa
import Derived.Test.YtohgcgedbhlnfaaAo
namespace Go.Proofs.Ytohgcgedbhlnfaa
open Go FM
set_option maxRecDepth 10000
set_option linter.all false
theorem shr_tb0 (a k : Nat) : shr a k % 2 = 0 ↔ a.testBit k = false := by
  unfold shr; rw [Nat.testBit_eq_decide_div_mod_eq]; simp
theorem shr_tb1 (a k : Nat) : shr a k % 2 = 1 ↔ a.testBit k = true := by
  unfold shr; rw [Nat.testBit_eq_decide_div_mod_eq]; simp
theorem perm_sub {l₁ l₂ : List Int} (h1 : l₁.Nodup) (h2 : l₂.Nodup) (hs : l₁ ⊆ l₂) (hl : l₂.length ≤ l₁.length) : l₁.Perm l₂ := by
  refine (List.perm_ext_iff_of_nodup h1 h2).2 fun a => ⟨fun h => hs h, fun h => Classical.byContradiction fun hn => ?_⟩
  have := (List.nodup_cons.2 ⟨hn, h1⟩).length_le_of_subset (l₂ := l₂) fun x hx => by
    rcases List.mem_cons.1 hx with rfl | hx
    · exact h
    · exact hs hx
  rw [List.length_cons] at this; omega
theorem mem_allO : ∀ (n : Nat) (l p : List Int), l.length = n → p.Perm l → p ∈ allOrders n l
  | 0, l, p, hl, hp => by
    obtain rfl := List.eq_nil_of_length_eq_zero hl
    rw [List.perm_nil.1 hp]; simp [allOrders]
  | n + 1, l, p, hl, hp => by
    match p, hp with
    | [], hp => have := hp.length_eq; simp at this; omega
    | x :: r, hp =>
      have hx : x ∈ l := hp.subset (List.mem_cons_self ..)
      obtain ⟨i, hi, e⟩ := List.getElem_of_mem hx
      have el : l = l.take i ++ x :: l.drop (i + 1) := by
        rw [← e, ← List.drop_eq_getElem_cons hi, List.take_append_drop]
      have hr : r.Perm (l.take i ++ l.drop (i + 1)) := by
        have h0 : l.Perm (x :: (l.take i ++ l.drop (i + 1))) := by
          conv => lhs; rw [el]
          exact List.perm_middle
        have h1 : (x :: r).Perm (x :: (l.take i ++ l.drop (i + 1))) := hp.trans h0
        exact h1.cons_inv
      simp only [allOrders, List.mem_flatMap, List.mem_map, List.mem_range]
      refine ⟨i, hi, r, mem_allO n _ r (cutOut_length hl hi) hr, ?_⟩
      rw [List.getD_eq_getElem?_getD, List.getElem?_eq_getElem hi]
      simp [e]
theorem allO_perm : ∀ (n : Nat) (l p : List Int), l.length = n → p ∈ allOrders n l → p.Perm l
  | 0, l, p, hl, hp => by
    obtain rfl := List.eq_nil_of_length_eq_zero hl
    simp [allOrders] at hp
    subst hp; exact .refl _
  | n + 1, l, p, hl, hp => by
    simp only [allOrders, List.mem_flatMap, List.mem_map, List.mem_range] at hp
    obtain ⟨i, hi, r, hr, rfl⟩ := hp
    have ih := allO_perm n _ r (cutOut_length hl hi) hr
    have el : l = l.take i ++ l[i] :: l.drop (i + 1) := by
      rw [← List.drop_eq_getElem_cons hi, List.take_append_drop]
    have e : l.getD i 0 = l[i] := by rw [List.getD_eq_getElem?_getD, List.getElem?_eq_getElem hi]; rfl
    rw [e]
    conv => rhs; rw [el]
    exact (ih.cons _).trans List.perm_middle.symm
/-- The program's search. -/
def bt (lt : Nat → Nat → Bool) (n s : Nat) : Nat → Nat → Bool
  | 0, _ => true
  | r + 1, t => if s.testBit (n - (r + 1)) = true then (List.range n).any fun x => s.testBit x && (!(t.testBit x) && (lt (n - (r + 1)) x && bt lt n s r (t ||| 2 ^ x))) else bt lt n s r t
def wh (n s : Nat) : Nat → List Nat
  | 0 => []
  | r + 1 => if s.testBit (n - (r + 1)) = true then (n - (r + 1)) :: wh n s r else wh n s r
theorem or_bit {t x y : Nat} : (t ||| 2 ^ x).testBit y = (t.testBit y || decide (x = y)) := by
  rw [Nat.testBit_or, Nat.testBit_two_pow]
theorem bt_iff {lt : Nat → Nat → Bool} {n s : Nat} : ∀ r t, bt lt n s r t = true ↔ ∃ p : List Nat, p.length = (wh n s r).length ∧ p.Nodup ∧ (∀ y ∈ p, y < n ∧ s.testBit y = true ∧ t.testBit y = false) ∧ ∀ (k i y : Nat), (wh n s r)[k]? = some i → p[k]? = some y → lt i y = true
  | 0, t => by
    refine ⟨fun _ => ⟨[], rfl, List.nodup_nil, fun y hy => (by cases hy), fun k i y h => (by simp [wh] at h)⟩, fun _ => rfl⟩
  | r + 1, t => by
    unfold bt wh
    by_cases hb : s.testBit (n - (r + 1)) = true
    · rw [if_pos hb, if_pos hb, List.any_eq_true]
      constructor
      · rintro ⟨x, hx, h⟩
        rw [Bool.and_eq_true, Bool.and_eq_true, Bool.and_eq_true, Bool.not_eq_true'] at h
        obtain ⟨h1, h2, h3, h4⟩ := h
        obtain ⟨p, p1, p2, p3, p4⟩ := (bt_iff r _).1 h4
        refine ⟨x :: p, by rw [List.length_cons, List.length_cons, p1], List.nodup_cons.2 ⟨fun hm => ?_, p2⟩, fun y hy => ?_, fun k i y hi hy => ?_⟩
        · have := (p3 x hm).2.2
          rw [or_bit] at this; simp at this
        · rcases List.mem_cons.1 hy with rfl | hy
          · exact ⟨List.mem_range.1 hx, h1, h2⟩
          · obtain ⟨a, b, c⟩ := p3 y hy
            rw [or_bit, Bool.or_eq_false_iff] at c
            exact ⟨a, b, c.1⟩
        · cases k with
          | zero =>
            simp only [List.getElem?_cons_zero, Option.some.injEq] at hi hy
            subst hi; subst hy; exact h3
          | succ k =>
            simp only [List.getElem?_cons_succ] at hi hy
            exact p4 k i y hi hy
      · rintro ⟨p, p1, p2, p3, p4⟩
        match p, p1, p2, p3, p4 with
        | [], p1, _, _, _ => simp at p1
        | x :: p, p1, p2, p3, p4 =>
          obtain ⟨q1, q2⟩ := List.nodup_cons.1 p2
          obtain ⟨a, b, c⟩ := p3 x (List.mem_cons_self ..)
          refine ⟨x, List.mem_range.2 a, ?_⟩
          rw [Bool.and_eq_true, Bool.and_eq_true, Bool.and_eq_true, Bool.not_eq_true']
          refine ⟨b, c, p4 0 _ _ rfl rfl, (bt_iff r _).2 ⟨p, by simpa using p1, q2, fun y hy => ?_, fun k i y hi hy => p4 (k + 1) i y (by simpa using hi) (by simpa using hy)⟩⟩
          obtain ⟨a', b', c'⟩ := p3 y (List.mem_cons_of_mem _ hy)
          refine ⟨a', b', ?_⟩
          rw [or_bit, c', Bool.false_or, decide_eq_false_iff_not]
          intro e; subst e; exact q1 hy
    · rw [if_neg hb, if_neg hb]
      exact bt_iff r t
theorem wh_filter {n s : Nat} : ∀ r, r ≤ n → wh n s r = ((List.range n).drop (n - r)).filter fun k => s.testBit k
  | 0, _ => by rw [Nat.sub_zero, List.drop_eq_nil_of_le (by simp)]; rfl
  | r + 1, h => by
    have ih := wh_filter (n := n) (s := s) r (by omega)
    have hlt : n - (r + 1) < (List.range n).length := by rw [List.length_range]; omega
    rw [List.drop_eq_getElem_cons hlt, List.filter_cons, List.getElem_range, show n - (r + 1) + 1 = n - r by omega, ← ih]
    rfl
/-- Those of a set. -/
def bitW (n s : Nat) : List Int := fl n fun k => s.testBit k
theorem bitW_wh {n s : Nat} : bitW n s = (wh n s n).map fun (k : Nat) => (k : Int) := by
  rw [wh_filter n (Nat.le_refl _), Nat.sub_self, List.drop_zero]; rfl
def ltB (lk : List (List Int)) (g : List Int) (i : Nat) (x : Int) : Bool := decide (ix (lk.getD i []) x < ix (lk.getD i []) (g.getD i 0))
def allG (lk : List (List Int)) (g who p : List Int) : Bool := (List.range who.length).all fun k => ltB lk g (who.getD k 0).toNat (p.getD k 0)
def orW (lk : List (List Int)) (g : List Int) (n s : Nat) : Bool := (allOrders (bitW n s).length (bitW n s)).any (allG lk g (bitW n s))
theorem getD_some {α : Type} {l : List α} {k : Nat} {x d : α} (h : l[k]? = some x) : l.getD k d = x := by rw [List.getD_eq_getElem?_getD, h]; rfl
theorem bt_orW {lk : List (List Int)} {g : List Int} {n s : Nat} : bt (fun i x => ltB lk g i (x : Int)) n s n 0 = orW lk g n s := by
  rw [Bool.eq_iff_iff, bt_iff]
  unfold orW
  rw [List.any_eq_true]
  have hW := bitW_wh (n := n) (s := s)
  have hWn : (bitW n s).Nodup := fl_nodup _ _
  have hWm : ∀ k : Nat, (k : Int) ∈ bitW n s ↔ k < n ∧ s.testBit k = true := fun k => by
    unfold bitW
    rw [fl_mem]
    constructor
    · rintro ⟨j, e, h1, h2⟩
      have : j = k := by omega
      subst this; exact ⟨h1, h2⟩
    · rintro ⟨h1, h2⟩; exact ⟨k, rfl, h1, h2⟩
  constructor
  · rintro ⟨p, p1, p2, p3, p4⟩
    refine ⟨p.map fun (k : Nat) => (k : Int), mem_allO _ _ _ rfl (perm_sub ?_ hWn ?_ ?_), ?_⟩
    · rw [List.Nodup, List.pairwise_map]
      exact p2.imp fun h e => h (by omega)
    · intro y hy
      obtain ⟨k, hk, rfl⟩ := List.mem_map.1 hy
      obtain ⟨a, b, _⟩ := p3 k hk
      exact (hWm k).2 ⟨a, b⟩
    · rw [hW, List.length_map, List.length_map, p1]; exact Nat.le_refl _
    · unfold allG
      rw [List.all_eq_true]
      intro k hk
      have hk := List.mem_range.1 hk
      rw [hW, List.length_map] at hk
      have e1 : (wh n s n)[k]? = some (wh n s n)[k] := List.getElem?_eq_getElem hk
      have e2 : p[k]? = some (p[k]'(by rw [p1]; exact hk)) := List.getElem?_eq_getElem _
      rw [hW, getD_some (x := (((wh n s n)[k] : Nat) : Int)) (by rw [List.getElem?_map, e1]; rfl), getD_some (x := ((p[k]'(by rw [p1]; exact hk) : Nat) : Int)) (by rw [List.getElem?_map, e2]; rfl), Int.toNat_natCast]
      exact p4 k _ _ e1 e2
  · rintro ⟨q, hq, ha⟩
    have hp := allO_perm _ _ _ rfl hq
    have hqn : q.Nodup := hp.nodup_iff.2 hWn
    have hqm : ∀ y ∈ q, 0 ≤ y ∧ y.toNat < n ∧ s.testBit y.toNat = true := fun y hy => by
      have := hp.subset hy
      unfold bitW at this
      obtain ⟨k, rfl, h1, h2⟩ := fl_mem.1 this
      exact ⟨by omega, h1, h2⟩
    refine ⟨q.map Int.toNat, ?_, ?_, ?_, ?_⟩
    · rw [List.length_map, hp.length_eq, hW, List.length_map]
    · rw [List.Nodup, List.pairwise_map]
      have := List.pairwise_iff_getElem.1 hqn
      refine List.pairwise_iff_getElem.2 fun i j hi hj hij e => ?_
      have h1 := hqm _ (List.getElem_mem hi)
      have h2 := hqm _ (List.getElem_mem hj)
      exact this i j hi hj hij (by omega)
    · intro y hy
      obtain ⟨z, hz, rfl⟩ := List.mem_map.1 hy
      obtain ⟨_, b, c⟩ := hqm z hz
      exact ⟨b, c, Nat.zero_testBit _⟩
    · intro k i y hi hy
      unfold allG at ha
      rw [List.all_eq_true] at ha
      have hk : k < (bitW n s).length := by rw [hW, List.length_map]; exact (List.getElem?_eq_some_iff.1 hi).1
      have := ha k (List.mem_range.2 hk)
      rw [List.getElem?_map] at hy
      obtain ⟨z, hz, rfl⟩ := Option.map_eq_some_iff.1 hy
      rw [hW, getD_some (x := ((i : Nat) : Int)) (by rw [List.getElem?_map, hi]; rfl), getD_some hz, Int.toNat_natCast] at this
      have hz0 := hqm z (List.mem_of_getElem? hz)
      rw [show ((z.toNat : Nat) : Int) = z by omega]
      exact this
def kpF (lk : List (List Int)) (g : List Int) (n : Nat) : Bool := !((List.range (2 ^ n - 1)).any fun s => orW lk g n (s + 1))
end Go.Proofs.Ytohgcgedbhlnfaa
