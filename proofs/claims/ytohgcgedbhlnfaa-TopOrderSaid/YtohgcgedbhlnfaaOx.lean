/- McGarvey: the votes that bring an order's majorities about. No program in sight. -/
import Derived.Test.YtohgcgedbhlnfaaOw
import Derived.Test.YtohgcgedbhlnfaaOq
import Derived.Test.YtohgcgedbhlnfaaDz
namespace Go.Proofs.Ytohgcgedbhlnfaa
open Go FM
set_option maxRecDepth 100000
set_option maxHeartbeats 1600000
set_option linter.all false
def twoChk (n : Nat) : Bool := (List.range n).all fun x => (List.range n).all fun y => Nat.beq x y || (((two n [(x : Int), (y : Int)]).all fun v => decide (okO n v)) && (List.range n).all fun a => (List.range n).all fun c => Nat.beq a c || Nat.beq (cnt (two n [(x : Int), (y : Int)]) a c) (bif Nat.beq a x && Nat.beq c y then 2 else bif Nat.beq a y && Nat.beq c x then 0 else 1))
theorem twoChk_all : ∀ n, n ≤ 6 → twoChk n = true
  | 0, _ => by decide +kernel
  | 1, _ => by decide +kernel
  | 2, _ => by decide +kernel
  | 3, _ => by decide +kernel
  | 4, _ => by decide +kernel
  | 5, _ => by decide +kernel
  | 6, _ => by decide +kernel
  | n + 7, h => by omega
theorem two_ok {n x y : Nat} (h6 : n ≤ 6) (hx : x < n) (hy : y < n) (hne : x ≠ y) : (∀ v ∈ two n [(x : Int), (y : Int)], okO n v) ∧
    ∀ a c, a < n → c < n → a ≠ c → cnt (two n [(x : Int), (y : Int)]) a c = if a = x ∧ c = y then 2 else if a = y ∧ c = x then 0 else 1 := by
  have h := twoChk_all n h6
  unfold twoChk at h
  have h1 := List.all_eq_true.1 (List.all_eq_true.1 h x (List.mem_range.2 hx)) y (List.mem_range.2 hy)
  have hb : Nat.beq x y = false := by
    cases e : Nat.beq x y with
    | false => rfl
    | true => exact absurd (Nat.eq_of_beq_eq_true e) hne
  rw [hb, Bool.false_or, Bool.and_eq_true] at h1
  refine ⟨fun v hv => of_decide_eq_true (List.all_eq_true.1 h1.1 v hv), fun a c ha hc hac => ?_⟩
  have h2 := List.all_eq_true.1 (List.all_eq_true.1 h1.2 a (List.mem_range.2 ha)) c (List.mem_range.2 hc)
  have hb2 : Nat.beq a c = false := by
    cases e : Nat.beq a c with
    | false => rfl
    | true => exact absurd (Nat.eq_of_beq_eq_true e) hac
  rw [hb2, Bool.false_or] at h2
  rw [Nat.eq_of_beq_eq_true h2]
  have bq : ∀ u w : Nat, Nat.beq u w = decide (u = w) := fun u w => by
    by_cases e : u = w
    · subst e; simp
    · rw [decide_eq_false e]
      cases e' : Nat.beq u w with
      | false => rfl
      | true => exact absurd (Nat.eq_of_beq_eq_true e') e
  rw [bq, bq, bq, bq]
  by_cases c1 : a = x ∧ c = y
  · rw [if_pos c1, decide_eq_true c1.1, decide_eq_true c1.2]; rfl
  · rw [if_neg c1]
    have e1 : (decide (a = x) && decide (c = y)) = false := by
      rw [← Bool.not_eq_true, Bool.and_eq_true, decide_eq_true_iff, decide_eq_true_iff]; exact c1
    rw [e1, cond_false]
    by_cases c2 : a = y ∧ c = x
    · rw [if_pos c2, decide_eq_true c2.1, decide_eq_true c2.2]; rfl
    · rw [if_neg c2]
      have e2 : (decide (a = y) && decide (c = x)) = false := by
        rw [← Bool.not_eq_true, Bool.and_eq_true, decide_eq_true_iff, decide_eq_true_iff]; exact c2
      rw [e2, cond_false]
/-- The pairs of an order, the better first. -/
def bts : List Int → List (List Int)
  | [] => []
  | x :: r => r.map (fun y => [x, y]) ++ bts r
theorem bts_mem {a c : Int} : ∀ {p : List Int}, [a, c] ∈ bts p → a ∈ p ∧ c ∈ p
  | [], h => by cases h
  | x :: r, h => by
    unfold bts at h
    rcases List.mem_append.1 h with h | h
    · obtain ⟨y, hy, e⟩ := List.mem_map.1 h
      cases e
      exact ⟨List.mem_cons_self .., List.mem_cons_of_mem _ hy⟩
    · obtain ⟨h1, h2⟩ := bts_mem h
      exact ⟨List.mem_cons_of_mem _ h1, List.mem_cons_of_mem _ h2⟩
theorem bts_form : ∀ {p : List Int}, p.Nodup → ∀ b ∈ bts p, ∃ x y, b = [x, y] ∧ x ∈ p ∧ y ∈ p ∧ x ≠ y
  | [], _, b, hb => by cases hb
  | x :: r, hn, b, hb => by
    obtain ⟨h1, h2⟩ := List.nodup_cons.1 hn
    unfold bts at hb
    rcases List.mem_append.1 hb with hb | hb
    · obtain ⟨y, hy, rfl⟩ := List.mem_map.1 hb
      exact ⟨x, y, rfl, List.mem_cons_self .., List.mem_cons_of_mem _ hy, fun e => h1 (e ▸ hy)⟩
    · obtain ⟨u, v, e, hu, hv, hne⟩ := bts_form h2 b hb
      exact ⟨u, v, e, List.mem_cons_of_mem _ hu, List.mem_cons_of_mem _ hv, hne⟩
theorem bts_len : ∀ p : List Int, 2 * (bts p).length + p.length = p.length * p.length
  | [] => rfl
  | x :: r => by
    have ih := bts_len r
    unfold bts
    rw [List.length_append, List.length_map, List.length_cons]
    have : (r.length + 1) * (r.length + 1) = r.length * r.length + 2 * r.length + 1 := by rw [Nat.add_mul, Nat.mul_add]; omega
    omega
def isP (a c : Int) (b : List Int) : Bool := decide (b = [a, c])
theorem map_count {x a c : Int} : ∀ r : List Int, r.Nodup → (r.map fun y => [x, y]).countP (isP a c) = if a = x ∧ c ∈ r then 1 else 0
  | [], _ => by simp
  | y :: r, hn => by
    obtain ⟨h1, h2⟩ := List.nodup_cons.1 hn
    have ih := map_count (x := x) (a := a) (c := c) r h2
    rw [List.map_cons, List.countP_cons, ih]
    unfold isP
    by_cases ha : a = x
    · subst ha
      by_cases hc : c = y
      · subst hc
        simp [h1]
      · have : ¬ y = c := fun e => hc e.symm
        simp [hc, this]
    · have : ¬ x = a := fun e => ha e.symm
      simp [ha, this]
theorem bts_count {a c : Int} : ∀ p : List Int, p.Nodup → a ∈ p → c ∈ p → a ≠ c → (bts p).countP (isP a c) = if ix p a < ix p c then 1 else 0
  | [], _, h, _, _ => by cases h
  | x :: r, hn, ha, hc, hne => by
    obtain ⟨h1, h2⟩ := List.nodup_cons.1 hn
    unfold bts
    rw [List.countP_append, map_count r h2]
    have none : ∀ u v : Int, (u ∉ r ∨ v ∉ r) → (bts r).countP (isP u v) = 0 := fun u v huv => List.countP_eq_zero.2 fun b hb hp => by
      unfold isP at hp
      have e := of_decide_eq_true hp
      subst e
      obtain ⟨m1, m2⟩ := bts_mem hb
      rcases huv with h | h <;> contradiction
    by_cases hax : a = x
    · subst hax
      have hcr : c ∈ r := by rcases List.mem_cons.1 hc with e | h; exact absurd e.symm hne; exact h
      have hk : ¬ ix r c < 0 := fun h => ix_neg.1 h hcr
      have e1 : ix (a :: r) a = 0 := by rw [ix_cons, if_pos rfl]
      have e2 : ix (a :: r) c = ix r c + 1 := by rw [ix_cons, if_neg (fun e => hne e.symm), if_neg hk]
      rw [none a c (.inl h1), if_pos ⟨rfl, hcr⟩, e1, e2, if_pos (by omega)]
    · have har : a ∈ r := by rcases List.mem_cons.1 ha with e | h; exact absurd e hax; exact h
      have hka : ¬ ix r a < 0 := fun h => ix_neg.1 h har
      have e1 : ix (x :: r) a = ix r a + 1 := by rw [ix_cons, if_neg hax, if_neg hka]
      rw [if_neg (fun h => hax h.1), e1]
      by_cases hcx : c = x
      · subst hcx
        have e2 : ix (c :: r) c = 0 := by rw [ix_cons, if_pos rfl]
        rw [none a c (.inr h1), e2, if_neg (by omega)]
      · have hcr : c ∈ r := by rcases List.mem_cons.1 hc with e | h; exact absurd e hcx; exact h
        have hkc : ¬ ix r c < 0 := fun h => ix_neg.1 h hcr
        have e2 : ix (x :: r) c = ix r c + 1 := by rw [ix_cons, if_neg hcx, if_neg hkc]
        rw [bts_count r h2 har hcr hne, e2]
        by_cases hlt : ix r a < ix r c
        · rw [if_pos hlt, if_pos (by omega)]
        · rw [if_neg hlt, if_neg (by omega)]
theorem cnt_app {V W : List (List Int)} {a c : Nat} : cnt (V ++ W) a c = cnt V a c + cnt W a c := by unfold cnt; rw [List.countP_append]
theorem votL_cnt {n : Nat} (h6 : n ≤ 6) {a c : Nat} (ha : a < n) (hc : c < n) (hne : a ≠ c) : ∀ bs : List (List Int), (∀ b ∈ bs, ∃ x y : Int, b = [x, y] ∧ (0 ≤ x ∧ x < n) ∧ (0 ≤ y ∧ y < n) ∧ x ≠ y) →
    (∀ v ∈ votL n bs, okO n v) ∧ cnt (votL n bs) a c + bs.countP (isP c a) = bs.length + bs.countP (isP a c)
  | [], _ => ⟨fun v hv => (List.not_mem_nil hv).elim, rfl⟩
  | b :: bs, h => by
    obtain ⟨i1, i2⟩ := votL_cnt h6 ha hc hne bs fun q hq => h q (List.mem_cons_of_mem _ hq)
    obtain ⟨x, y, rfl, hx, hy, hxy⟩ := h b (List.mem_cons_self ..)
    obtain ⟨x', rfl⟩ : ∃ x' : Nat, x = x' := ⟨x.toNat, by omega⟩
    obtain ⟨y', rfl⟩ : ∃ y' : Nat, y = y' := ⟨y.toNat, by omega⟩
    obtain ⟨t1, t2⟩ := two_ok (n := n) (x := x') (y := y') h6 (by omega) (by omega) (by omega)
    have t3 := t2 a c ha hc hne
    have ev : votL n ([(x' : Int), (y' : Int)] :: bs) = two n [(x' : Int), (y' : Int)] ++ votL n bs := by unfold votL; rw [List.flatMap_cons]
    have p1 : isP a c [(x' : Int), (y' : Int)] = decide (a = x' ∧ c = y') := by
      unfold isP
      rw [decide_eq_decide]
      simp only [List.cons.injEq, and_true]
      omega
    have p2 : isP c a [(x' : Int), (y' : Int)] = decide (a = y' ∧ c = x') := by
      unfold isP
      rw [decide_eq_decide]
      simp only [List.cons.injEq, and_true]
      omega
    rw [ev]
    refine ⟨fun v hv => ?_, ?_⟩
    · rcases List.mem_append.1 hv with hv | hv
      · exact t1 v hv
      · exact i1 v hv
    · rw [cnt_app, t3, List.countP_cons, List.countP_cons, List.length_cons, p1, p2]
      simp only [decide_eq_true_eq]
      by_cases c1 : a = x' ∧ c = y'
      · rw [if_pos c1, if_pos c1, if_neg (by omega)]; omega
      · rw [if_neg c1, if_neg c1]
        by_cases c2 : a = y' ∧ c = x'
        · rw [if_pos c2, if_pos c2]; omega
        · rw [if_neg c2, if_neg c2]; omega
end Go.Proofs.Ytohgcgedbhlnfaa
