/- Package order: what is an order; how far two are apart. -/
import Derived.Test.YtkkcnppgcnmikaaGreatDoorSlnm
namespace Go.Proofs.YtkkcnppgcnmikaaGreatDoor
open Go FM
set_option maxRecDepth 10000
set_option maxHeartbeats 1600000
set_option linter.all false
/-- Each side below n once. -/
def okO (n : Int) (p : List Int) : Prop := (∀ x ∈ p, 0 ≤ x ∧ x < n) ∧ p.Nodup ∧ (p.length : Int) = n
instance (n : Int) (p : List Int) : Decidable (okO n p) := by unfold okO; exact inferInstance
def orderE (n : Int) (p : List Int) : Int := if n < 1 ∨ 6 < n then 1 else if okO n p then 0 else 3
def snO (p : List Int) (k : Nat) : List Bool := tb 6 fun v => decide ((v : Int) ∈ p.take k)
theorem snO_length {p : List Int} {k : Nat} : (snO p k).length = 6 := tb_length
theorem snO_get {p : List Int} {k : Nat} {x : Int} (h0 : 0 ≤ x) (h : x < 6) : (snO p k)[x.toNat]? = some (decide (x ∈ p.take k)) := by
  unfold snO; rw [tb_get (by omega), Int.toNat_of_nonneg h0]
theorem snO_set {p : List Int} {k : Nat} (hk : k < p.length) (h0 : 0 ≤ p[k]) : (snO p k).set (p[k]).toNat true = snO p (k + 1) := by
  unfold snO
  rw [tb_set]
  refine tb_congr fun a _ => ?_
  by_cases ha : a = (p[k]).toNat
  · rw [if_pos ha]
    have : (a : Int) = p[k] := by omega
    rw [decide_eq_true]
    rw [List.take_succ_eq_append_getElem hk, List.mem_append, List.mem_singleton]
    exact .inr this
  · rw [if_neg ha]
    have : ¬ ((a : Int) = p[k]) := by omega
    refine decide_eq_decide.2 ?_
    rw [List.take_succ_eq_append_getElem hk, List.mem_append, List.mem_singleton]
    exact ⟨.inl, fun h => h.resolve_right this⟩
theorem snO_zero {p : List Int} : [false, false, false, false, false, false] = snO p 0 := by
  simp [snO, tb]; rfl
theorem nodup_take {p : List Int} {k : Nat} (hk : k < p.length) : (p.take (k + 1)).Nodup ↔ (p.take k).Nodup ∧ p[k] ∉ p.take k := by
  rw [List.take_succ_eq_append_getElem hk, List.nodup_append]
  constructor
  · rintro ⟨h1, _, h3⟩
    exact ⟨h1, fun h => h3 _ h _ (List.mem_singleton.2 rfl) rfl⟩
  · rintro ⟨h1, h2⟩
    refine ⟨h1, by simp, fun a ha b hb e => ?_⟩
    rw [List.mem_singleton.1 hb] at e
    exact h2 (e ▸ ha)
theorem orderCheck_spec (n : Int) (p : List Int) (hp : p.length ≤ 9223372036854775807) : FnSpec Sy.P 104 [.int n, .sl false 1 ((p).map .int)] [.int n, .sl false 1 ((p).map .int)] (.int (orderE n p)) := by
  refine FnSpec.enter (S := Sy) 0 Tryz.func104 rfl rfl rfl Tryz.ntmps104 rfl rfl rfl rfl fun v0 => ?_
  by_cases h1 : n < 1 ∨ 6 < n
  · rw [show orderE n p = 1 from if_pos h1]
    (repeat' (first | refine w9x ?_ | (refine w9c ?_ ?_ <;> intro _ <;> try exact w9o) | (refine w9d ?_ ?_ <;> intro _ <;> try exact w9s) | (refine w9q ?_; intro bnil hbnil)))
    all_goals exact .mk rfl rfl rfl
  rw [show orderE n p = if okO n p then 0 else 3 from if_neg h1]
  have hz := snO_zero (p := p)
  (repeat' (first | refine w9x ?_ | (refine w9c ?_ ?_ <;> intro _ <;> try exact w9o) | (refine w9d ?_ ?_ <;> intro _ <;> try exact w9s) | (refine w9q ?_; intro bnil hbnil)))
  refine CW.loop (fun k : Nat => [(0, .av (.int (n))), (1, .av (.sl false 1 ((p).map .int))), (5, .av (.pt true ((snO p k).map .bool))), (14, .av (.sl false 1 ((p).map .int))), (15, .av (.int (p.length))), (16, .av (.int (k)))]) (fun k => k ≤ p.length ∧ (∀ x ∈ p.take k, 0 ≤ x ∧ x < n) ∧ (p.take k).Nodup) (fun k => p.length - k) (0) ?_ (by (repeat' (first | exact trivial | rfl | refine And.intro ?_ ?_ | exact int_congr (by omega) | exact int_congr (by dsimp only; omega) | exact ints_congr (by first | assumption | exact Eq.symm (by assumption)) | exact int_congr (by assumption) | exact bool_congr (by first | assumption | exact Eq.symm (by assumption)) | exact map_congr' (by first | assumption | exact Eq.symm (by assumption)) | (rw [← hz]; rfl)))) ?_
  · exact ⟨Nat.zero_le _, by simp, by simp⟩
  intro k ⟨hk, hq1, hq2⟩
  have hsl := snO_length (p := p) (k := k)
  by_cases hlt : k < p.length
  · have hx : p[k]? = some p[k] := List.getElem?_eq_getElem hlt
    by_cases hr : p[k] < 0 ∨ n ≤ p[k]
    · have hno : ¬ okO n p := fun h => by have := h.1 _ (List.getElem_mem hlt); omega
      rw [if_neg hno]
      (repeat' (first | refine w9x ?_ | (refine w9c ?_ ?_ <;> intro _ <;> try exact w9o) | (refine w9d ?_ ?_ <;> intro _ <;> try exact w9s) | (refine w9q ?_; intro bnil hbnil)))
      all_goals first | (exfalso; omega) | exact .mk rfl rfl rfl
    · have hg := snO_get (p := p) (k := k) (x := p[k]) (by omega) (by omega)
      by_cases hm : p[k] ∈ p.take k
      · rw [decide_eq_true hm] at hg
        have hno : ¬ okO n p := fun h => by
          have h2 : (p.take (k + 1)).Nodup := List.Nodup.sublist (List.take_sublist ..) h.2.1
          exact ((nodup_take hlt).1 h2).2 hm
        rw [if_neg hno]
        (repeat' (first | refine w9x ?_ | (refine w9c ?_ ?_ <;> intro _ <;> try exact w9o) | (refine w9d ?_ ?_ <;> intro _ <;> try exact w9s) | (refine w9q ?_; intro bnil hbnil)))
        all_goals first | (exfalso; omega) | exact .mk rfl rfl rfl
      · rw [decide_eq_false hm] at hg
        have hs := snO_set hlt (by omega)
        (repeat' (first | refine w9x ?_ | (refine w9c ?_ ?_ <;> intro _ <;> try exact w9o) | (refine w9d ?_ ?_ <;> intro _ <;> try exact w9s) | (refine w9q ?_; intro bnil hbnil)))
        all_goals first
          | (exfalso; omega)
          | (refine ⟨k+1, ?_, by first | omega | (simp only; omega), by (repeat' (first | exact trivial | rfl | refine And.intro ?_ ?_ | exact int_congr (by omega) | exact int_congr (by dsimp only; omega) | exact ints_congr (by first | assumption | exact Eq.symm (by assumption)) | exact int_congr (by assumption) | exact bool_congr (by first | assumption | exact Eq.symm (by assumption)) | exact map_congr' (by first | assumption | exact Eq.symm (by assumption)) | (rw [← hs]; rfl)))⟩
             refine ⟨by omega, fun x hx' => ?_, (nodup_take hlt).2 ⟨hq2, hm⟩⟩
             rw [List.take_succ_eq_append_getElem hlt, List.mem_append, List.mem_singleton] at hx'
             rcases hx' with hx' | hx'
             · exact hq1 x hx'
             · rw [hx']; omega)
  · obtain rfl : k = p.length := by omega
    rw [List.take_length] at hq1 hq2
    by_cases hl : (p.length : Int) = n
    · rw [if_pos ⟨hq1, hq2, hl⟩]
      (repeat' (first | refine w9x ?_ | (refine w9c ?_ ?_ <;> intro _ <;> try exact w9o) | (refine w9d ?_ ?_ <;> intro _ <;> try exact w9s) | (refine w9q ?_; intro bnil hbnil)))
      exact .mk rfl rfl rfl
    · rw [if_neg (fun h => hl h.2.2)]
      (repeat' (first | refine w9x ?_ | (refine w9c ?_ ?_ <;> intro _ <;> try exact w9o) | (refine w9d ?_ ?_ <;> intro _ <;> try exact w9s) | (refine w9q ?_; intro bnil hbnil)))
      exact .mk rfl rfl rfl
/-! ### how far -/
def ix (q : List Int) (x : Int) : Int := fidx (fun y => decide (x = y)) q 0
def farIn (q : List Int) (x : Int) : List Int → Nat
  | [] => 0
  | y :: r => (if ix q y < ix q x then 1 else 0) + farIn q x r
def far (q : List Int) : List Int → Nat
  | [] => 0
  | x :: r => farIn q x r + far q r
theorem farIn_le {q : List Int} {x : Int} : ∀ r : List Int, farIn q x r ≤ r.length
  | [] => Nat.le_refl _
  | y :: r => by have := farIn_le (q := q) (x := x) r; unfold farIn; rw [List.length_cons]; split <;> omega
theorem far_le {q : List Int} : ∀ r : List Int, r.length ≤ 6 → far q r ≤ 6 * r.length
  | [], _ => by simp [far]
  | x :: r, h => by
    rw [List.length_cons] at h
    have := far_le (q := q) r (by omega)
    have := farIn_le (q := q) (x := x) r
    unfold far; rw [List.length_cons]; omega
theorem far_drop {q p : List Int} {k : Nat} (h : k < p.length) : far q (p.drop k) = farIn q p[k] (p.drop (k + 1)) + far q (p.drop (k + 1)) := by
  rw [List.drop_eq_getElem_cons h]; rfl
theorem farIn_drop {q r : List Int} {x : Int} {k : Nat} (h : k < r.length) : farIn q x (r.drop k) = (if ix q r[k] < ix q x then 1 else 0) + farIn q x (r.drop (k + 1)) := by
  rw [List.drop_eq_getElem_cons h]; rfl
theorem orderFar_spec (p q : List Int) (hp : orderE p.length p = 0) (hq : orderE p.length q = 0) : FnSpec Sy.P 58 [.sl false 1 ((p).map .int), .sl false 1 ((q).map .int)] [.sl false 1 ((p).map .int), .sl false 1 ((q).map .int)] (.tup [.int ((far q p : Nat) : Int), .int 0]) := by
  have h6 : p.length ≤ 6 := by
    unfold orderE at hp
    by_cases h : (p.length : Int) < 1 ∨ 6 < (p.length : Int)
    · rw [if_pos h] at hp; cases hp
    · omega
  have hq6 : q.length ≤ 6 := by
    unfold orderE at hq
    by_cases h : (p.length : Int) < 1 ∨ 6 < (p.length : Int)
    · rw [if_pos h] at hq; cases hq
    · rw [if_neg h] at hq
      by_cases h2 : okO p.length q
      · have := h2.2.2; omega
      · rw [if_neg h2] at hq; cases hq
  have hC := orderCheck_spec p.length p (by omega)
  have hC2 := orderCheck_spec p.length q (by omega)
  rw [hp] at hC
  rw [hq] at hC2
  have hI := fun x => indexInt_spec q x (by omega)
  refine FnSpec.enter (S := Sy) 0 Tryz.func58 rfl rfl rfl Tryz.ntmps58 rfl rfl rfl rfl fun v0 => ?_
  (repeat' (first | refine w9x ?_ | refine w9p (hC) ?_ | refine w9p (hC2) ?_ | (refine w9c ?_ ?_ <;> intro _ <;> try exact w9o) | (refine w9d ?_ ?_ <;> intro _ <;> try exact w9s) | (refine w9q ?_; intro bnil hbnil)))
  refine CW.loop (fun s : Nat × Nat => [(0, .av (.sl false 1 ((p).map .int))), (1, .av (.sl false 1 ((q).map .int))), (8, .av (.int (((s.2 : Nat) : Int)))), (27, .av (.sl false 1 ((p).map .int))), (28, .av (.int (p.length))), (29, .av (.int (s.1)))]) (fun s => s.1 ≤ p.length ∧ s.2 + far q (p.drop s.1) = far q p) (fun s => p.length - s.1) ((0, 0)) ?_ (by exact w9a) ?_
  · exact ⟨Nat.zero_le _, by simp⟩
  intro ⟨i, m⟩ ⟨hi, hm⟩
  dsimp only at hi hm ⊢
  have hfl := far_le (q := q) p h6
  by_cases hil : i < p.length
  · have hx : p[i]? = some p[i] := List.getElem?_eq_getElem hil
    rw [far_drop hil] at hm
    have hIx := hI p[i]
    generalize p[i] = x at *
    have hdl : ((p.drop ((i : Int) + 1).toNat)).length = p.length - (i + 1) := by rw [List.length_drop]; omega
    have hde : p.drop ((i : Int) + 1).toNat = p.drop (i + 1) := by congr 1
    rw [← hde] at hm
    (repeat' (first | refine w9x ?_ | (refine w9c ?_ ?_ <;> intro _ <;> try exact w9o) | (refine w9d ?_ ?_ <;> intro _ <;> try exact w9s) | (refine w9q ?_; intro bnil hbnil)))
    generalize hrr : p.drop ((i : Int) + 1).toNat = rr at *
    refine CW.loop (fun t : Nat × Nat => [(0, .av (.sl false 1 ((p).map .int))), (1, .av (.sl false 1 ((q).map .int))), (8, .av (.int (((t.2 : Nat) : Int)))), (10, .av (.int (x))), (27, .av (.sl false 1 ((p).map .int))), (28, .av (.int (p.length))), (29, .av (.int (i))), (37, .av (.sl false 1 ((rr).map .int))), (38, .av (.int (rr.length))), (39, .av (.int (t.1)))]) (fun t => t.1 ≤ rr.length ∧ t.2 + farIn q x (rr.drop t.1) = m + farIn q x rr) (fun t => rr.length - t.1) ((0, m)) ?_ (by exact w9a) ?_
    · exact ⟨Nat.zero_le _, by simp⟩
    intro ⟨j, m2⟩ ⟨hj, hm2⟩
    dsimp only at hj hm2 ⊢
    by_cases hjl : j < rr.length
    · have hy : rr[j]? = some rr[j] := List.getElem?_eq_getElem hjl
      rw [farIn_drop hjl] at hm2
      have hIy := hI rr[j]
      have r1 := fidx_range (p := fun y => decide (x = y)) (l := q) (k := 0)
      generalize rr[j] = y at *
      have ex : fidx (fun y => decide (x = y)) q 0 = ix q x := rfl
      have ey : fidx (fun z => decide (y = z)) q 0 = ix q y := rfl
      rw [ex] at hIx
      rw [ey] at hIy
      by_cases hc : ix q y < ix q x
      · rw [if_pos hc] at hm2
        (repeat' (first | refine w9x ?_ | refine w9p (hIx) ?_ | refine w9p (hIy) ?_ | (refine w9c ?_ ?_ <;> intro _ <;> try exact w9o) | (refine w9d ?_ ?_ <;> intro _ <;> try exact w9s) | (refine w9q ?_; intro bnil hbnil)))
        refine ⟨(j + 1, m2 + 1), ?_, by first | omega | (simp only; omega), by exact w9a⟩
        exact ⟨by simp only; omega, by simp only; omega⟩
      · rw [if_neg hc] at hm2
        (repeat' (first | refine w9x ?_ | refine w9p (hIx) ?_ | refine w9p (hIy) ?_ | (refine w9c ?_ ?_ <;> intro _ <;> try exact w9o) | (refine w9d ?_ ?_ <;> intro _ <;> try exact w9s) | (refine w9q ?_; intro bnil hbnil)))
        refine ⟨(j + 1, m2), ?_, by first | omega | (simp only; omega), by exact w9a⟩
        exact ⟨by simp only; omega, by simp only; omega⟩
    · obtain rfl : j = rr.length := by omega
      rw [List.drop_length] at hm2
      simp only [farIn, Nat.add_zero] at hm2
      (repeat' (first | refine w9x ?_ | (refine w9c ?_ ?_ <;> intro _ <;> try exact w9o) | (refine w9d ?_ ?_ <;> intro _ <;> try exact w9s) | (refine w9q ?_; intro bnil hbnil)))
      refine ⟨(i + 1, m2), ?_, by first | omega | (simp only; omega), by exact w9a⟩
      dsimp only
      rw [← hde]
      exact ⟨by omega, by omega⟩
  · obtain rfl : i = p.length := by omega
    rw [List.drop_length] at hm
    simp only [far, Nat.add_zero] at hm
    subst hm
    (repeat' (first | refine w9x ?_ | (refine w9c ?_ ?_ <;> intro _ <;> try exact w9o) | (refine w9d ?_ ?_ <;> intro _ <;> try exact w9s) | (refine w9q ?_; intro bnil hbnil)))
    exact .mk rfl rfl rfl
end Go.Proofs.YtkkcnppgcnmikaaGreatDoor

/- Something that is so of a program that does anything; no error at all; a rest by a number: in a namespace of their own. -/
namespace Go.Proofs.YtkkcnppgcnmikaaGreatDoor.W
open Go FM
set_option maxRecDepth 10000
set_option maxHeartbeats 1600000
set_option linter.all false
/-- The weight of a set. -/
def hv : List Int → Nat → Int
  | [], _ => 0
  | x :: r, s => x * ((s % 2 : Nat) : Int) + hv r (s / 2)
def okW (w : List Int) : Prop := w.length ≤ 6 ∧ ∀ x ∈ w, 0 ≤ x ∧ x ≤ 1000
theorem okW.tail {x : Int} {w : List Int} (h : okW (x :: w)) : (0 ≤ x ∧ x ≤ 1000) ∧ okW w := ⟨h.2 x (List.mem_cons_self ..), by have := h.1; simp at this; omega, fun y hy => h.2 y (List.mem_cons_of_mem _ hy)⟩
def fact : Nat → Nat
  | 0 => 1
  | n + 1 => (n + 1) * fact n
theorem fact_le : ∀ n, n ≤ 6 → fact n ≤ 720 := by decide
abbrev off (s j : Nat) : Nat := s ^^^ (s &&& 2 ^ j)
def swing (w : List Int) (q : Int) (s j : Nat) : Prop := shr s j % 2 = 1 ∧ q ≤ hv w s ∧ ¬ q ≤ hv w (off s j)
instance (w : List Int) (q : Int) (s j : Nat) : Decidable (swing w q s j) := by unfold swing; exact inferInstance
/-- How many of the first players a set holds. -/
def pc : Nat → Nat → Nat
  | 0, _ => 0
  | k + 1, s => pc k s + shr s k % 2
theorem pc_le : ∀ k s, pc k s ≤ k
  | 0, _ => Nat.le_refl _
  | k + 1, s => by have := pc_le k s; simp only [pc]; omega
/-- A right worth of sets. -/
structure VOk (n : Nat) (v : List Int) : Prop where
  n1 : 1 ≤ n
  n6 : n ≤ 6
  len : v.length = 2 ^ n
  range : ∀ x ∈ v, -1000000 ≤ x ∧ x ≤ 1000000
  zero : v.getD 0 0 = 0
theorem pow64w {n : Nat} (h : n ≤ 6) : 2 ^ n ≤ 64 := Nat.pow_le_pow_right (n := 2) (i := n) (j := 6) (by decide) h
theorem worthCheck_spec (n : Nat) (v : List Int) (h : VOk n v) : FnSpec Sy.P 106 [.int n, .sl false 1 ((v).map .int)] [.int n, .sl false 1 ((v).map .int)] (.int 0) := by
  have h1 := h.n1; have h2 := h.n6; have h3 := h.len
  have h64 := pow64w h2
  have hp1 : 2 ^ 1 ≤ 2 ^ n := Nat.pow_le_pow_right (by decide) h1
  have hpp : (0 : Int) ≤ ((2 ^ n : Nat) : Int) := Int.natCast_nonneg _
  have hz : v[0]? = some 0 := by
    have := h.zero
    rw [List.getD_eq_getElem?_getD] at this
    rw [List.getElem?_eq_getElem (by omega)] at this ⊢
    simp only [Option.getD_some] at this
    rw [this]
  refine FnSpec.enter (S := Sy) 0 Tryz.func106 rfl rfl rfl Tryz.ntmps106 rfl rfl rfl rfl fun v0 => ?_
  (repeat' (first | refine w9x ?_ | (refine w9c ?_ ?_ <;> intro _ <;> try exact w9o) | (refine w9d ?_ ?_ <;> intro _ <;> try exact w9s) | (refine w9q ?_; intro bnil hbnil)))
  refine CW.loop (fun k : Nat => [(1, .av (.sl false 1 ((v).map .int))), (18, .av (.sl false 1 ((v).map .int))), (19, .av (.int (v.length))), (20, .av (.int (k)))]) (fun k => k ≤ v.length) (fun k => v.length - k) (0) ?_ (by exact w9a) ?_
  · exact Nat.zero_le _
  intro k hk
  by_cases hlt : k < v.length
  · have hx : v[k]? = some v[k] := List.getElem?_eq_getElem hlt
    have hr := h.range _ (List.getElem_mem hlt)
    (repeat' (first | refine w9x ?_ | (refine w9c ?_ ?_ <;> intro _ <;> try exact w9o) | (refine w9d ?_ ?_ <;> intro _ <;> try exact w9s) | (refine w9q ?_; intro bnil hbnil)))
    refine ⟨k+1, ?_, by first | omega | (simp only; omega), by exact w9a⟩
    omega
  · obtain rfl : k = v.length := by omega
    (repeat' (first | refine w9x ?_ | (refine w9c ?_ ?_ <;> intro _ <;> try exact w9o) | (refine w9d ?_ ?_ <;> intro _ <;> try exact w9s) | (refine w9q ?_; intro bnil hbnil)))
    exact .mk rfl rfl rfl
theorem shr_succ (s t : Nat) : shr s t / 2 = shr s (t + 1) := by unfold shr; rw [Nat.div_div_eq_div_mul, ← Nat.pow_succ]
theorem shr_zero_of {s t n : Nat} (hs : s < 2 ^ n) (h : n ≤ t) : shr s t = 0 := by
  unfold shr; exact Nat.div_eq_of_lt (Nat.lt_of_lt_of_le hs (Nat.pow_le_pow_right (by decide) h))
theorem pc_stop {s t : Nat} (h : shr s t = 0) : ∀ k, t ≤ k → pc k s = pc t s
  | 0, hk => by obtain rfl : t = 0 := by omega
                rfl
  | k + 1, hk => by
    by_cases e : t = k + 1
    · rw [e]
    · have hz : shr s k = 0 := by
        have : shr s k ≤ shr s t := by unfold shr; exact Nat.div_le_div_left (Nat.pow_le_pow_right (by decide) (by omega)) (Nat.two_pow_pos _)
        omega
      simp only [pc, hz]
      rw [pc_stop h k (by omega)]
      omega
theorem size_spec (s n : Nat) (hs : s < 2 ^ n) (hn : n ≤ 6) : FnSpec Sy.P 107 [.int s] [.int s] (.int ((pc n s : Nat) : Int)) := by
  have h64 := pow64w hn
  refine FnSpec.enter (S := Sy) 0 Tryz.func107 rfl rfl rfl Tryz.ntmps107 rfl rfl rfl rfl fun v0 => ?_
  (repeat' (first | refine w9x ?_ | (refine w9c ?_ ?_ <;> intro _ <;> try exact w9o) | (refine w9d ?_ ?_ <;> intro _ <;> try exact w9s) | (refine w9q ?_; intro bnil hbnil)))
  refine CW.loop (fun t : Nat => [(0, .av (.int (((shr s t : Nat) : Int)))), (3, .av (.int (((pc t s : Nat) : Int))))]) (fun t => t ≤ n) (fun t => n - t) (0) ?_ (by (repeat' (first | exact trivial | rfl | refine And.intro ?_ ?_ | exact int_congr (by omega) | exact int_congr (by dsimp only; omega) | exact ints_congr (by first | assumption | exact Eq.symm (by assumption)) | exact int_congr (by assumption) | exact bool_congr (by first | assumption | exact Eq.symm (by assumption)) | exact map_congr' (by first | assumption | exact Eq.symm (by assumption)) | exact int_congr (by simp [shr])))) ?_
  · exact Nat.zero_le _
  intro t ht
  have hsl := shr_le s t
  have hpc := pc_le t s
  by_cases hz : shr s t = 0
  · rw [pc_stop hz n ht]
    (repeat' (first | refine w9x ?_ | (refine w9c ?_ ?_ <;> intro _ <;> try exact w9o) | (refine w9d ?_ ?_ <;> intro _ <;> try exact w9s) | (refine w9q ?_; intro bnil hbnil)))
    exact .mk rfl rfl rfl
  · have hlt : t < n := by
      rcases Nat.lt_or_ge t n with h | h
      · exact h
      · exact absurd (shr_zero_of hs h) hz
    have e1 := shr_succ s t
    have e2 : pc (t + 1) s = pc t s + shr s t % 2 := rfl
    (repeat' (first | refine w9x ?_ | (refine w9c ?_ ?_ <;> intro _ <;> try exact w9o) | (refine w9d ?_ ?_ <;> intro _ <;> try exact w9s) | (refine w9q ?_; intro bnil hbnil)))
    refine ⟨t+1, ?_, by first | omega | (simp only; omega), by (repeat' (first | exact trivial | rfl | refine And.intro ?_ ?_ | exact int_congr (by omega) | exact int_congr (by dsimp only; omega) | exact ints_congr (by first | assumption | exact Eq.symm (by assumption)) | exact int_congr (by assumption) | exact bool_congr (by first | assumption | exact Eq.symm (by assumption)) | exact map_congr' (by first | assumption | exact Eq.symm (by assumption)) | (rw [← e1]; rfl)))⟩
    omega
theorem factW_spec (n : Nat) (hn : n ≤ 6) : FnSpec Sy.P 108 [.int n] [.int n] (.int (fact n)) := by
  refine FnSpec.enter (S := Sy) 0 Tryz.func108 rfl rfl rfl Tryz.ntmps108 rfl rfl rfl rfl fun v0 => ?_
  (repeat' (first | refine w9x ?_ | (refine w9c ?_ ?_ <;> intro _ <;> try exact w9o) | (refine w9d ?_ ?_ <;> intro _ <;> try exact w9s) | (refine w9q ?_; intro bnil hbnil)))
  refine CW.loop (fun k : Nat => [(0, .av (.int (n))), (3, .av (.int (fact (k-1)))), (4, .av (.int (k)))]) (fun k => 2 ≤ k ∧ (k ≤ n + 1 ∨ k = 2)) (fun k => n + 1 - k) (2) ?_ (by exact w9a) ?_
  · exact ⟨Nat.le_refl _, .inr rfl⟩
  intro k ⟨h2, h3⟩
  by_cases hlt : k ≤ n
  · have h4 : ((fact (k-1) : Nat) : Int) * (k : Int) = ((fact (k+1-1) : Nat) : Int) := by
      obtain ⟨m, rfl⟩ : ∃ m, k = m + 1 := ⟨k - 1, by omega⟩
      simp only [Nat.add_sub_cancel]
      rw [show fact (m + 1) = (m + 1) * fact m from rfl, Int.natCast_mul, Int.mul_comm]
    have h5 := fact_le (k+1-1) (by omega)
    (repeat' (first | refine w9x ?_ | (refine w9c ?_ ?_ <;> intro _ <;> try exact w9o) | (refine w9d ?_ ?_ <;> intro _ <;> try exact w9s) | (refine w9q ?_; intro bnil hbnil)))
    refine ⟨k+1, ?_, by first | omega | (simp only; omega), by exact w9a⟩
    omega
  · have : fact (k-1) = fact n := by
      rcases h3 with h3 | rfl
      · rw [show k - 1 = n by omega]
      · rcases n with _ | _ | n
        · rfl
        · rfl
        · omega
    rw [this]
    (repeat' (first | refine w9x ?_ | (refine w9c ?_ ?_ <;> intro _ <;> try exact w9o) | (refine w9d ?_ ?_ <;> intro _ <;> try exact w9s) | (refine w9q ?_; intro bnil hbnil)))
    exact .mk rfl rfl rfl
theorem factW_specI (n : Nat) (m : Int) (hm : m = n) (hn : n ≤ 6) : FnSpec Sy.P 108 [.int m] [.int m] (.int (fact n)) := by
  subst hm; exact factW_spec n hn
def wt (n k : Nat) : Int := ((fact k : Nat) : Int) * ((fact (n - 1 - k) : Nat) : Int)
def gW (n : Nat) (v : List Int) (s i : Nat) : Int := if shr s i % 2 = 0 then wt n (pc n s) * (v.getD (s ||| 2 ^ i) 0 - v.getD s 0) else 0
theorem gW_yes {n : Nat} {v : List Int} {s i : Nat} (h : shr s i % 2 = 0) : gW n v s i = wt n (pc n s) * (v.getD (s ||| 2 ^ i) 0 - v.getD s 0) := if_pos h
theorem gW_no {n : Nat} {v : List Int} {s i : Nat} (h : ¬ shr s i % 2 = 0) : gW n v s i = 0 := if_neg h
theorem wt_bound {n k : Nat} (hn : n ≤ 6) (hk : k ≤ 6) : 0 ≤ wt n k ∧ wt n k ≤ 518400 := by
  have h1 := fact_le k hk
  have h2 := fact_le (n - 1 - k) (by omega)
  have h3 : fact k * fact (n - 1 - k) ≤ 720 * 720 := Nat.mul_le_mul h1 h2
  unfold wt
  rw [← Int.natCast_mul]
  omega
theorem mul_abs {a b A B : Int} (ha : 0 ≤ a ∧ a ≤ A) (hb : -B ≤ b ∧ b ≤ B) : -(A * B) ≤ a * b ∧ a * b ≤ A * B := by
  have hB : 0 ≤ B := by omega
  have h1 : a * b ≤ a * B := Int.mul_le_mul_of_nonneg_left hb.2 ha.1
  have h2 : a * B ≤ A * B := Int.mul_le_mul_of_nonneg_right ha.2 hB
  have h3 : a * (-B) ≤ a * b := Int.mul_le_mul_of_nonneg_left hb.1 ha.1
  rw [Int.mul_neg] at h3
  omega
theorem sum_range_abs {f : Nat → Int} {m : Int} : ∀ s : Nat, (∀ k, k < s → -m ≤ f k ∧ f k ≤ m) → -(m * s) ≤ ((List.range s).map f).sum ∧ ((List.range s).map f).sum ≤ m * s
  | 0, _ => by simp
  | s + 1, h => by
    have ih := sum_range_abs s fun k hk => h k (by omega)
    have h1 := h s (by omega)
    rw [List.range_succ, List.map_append, List.sum_append]
    simp only [List.map_cons, List.map_nil, List.sum_cons, List.sum_nil]
    have : m * ((s + 1 : Nat) : Int) = m * s + m := by rw [Int.natCast_add, Int.mul_add]; simp
    omega
theorem getD_range {n : Nat} {v : List Int} (h : VOk n v) (s : Nat) : -1000000 ≤ v.getD s 0 ∧ v.getD s 0 ≤ 1000000 := by
  rw [List.getD_eq_getElem?_getD]
  by_cases hs : s < v.length
  · rw [List.getElem?_eq_getElem hs]; exact h.range _ (List.getElem_mem hs)
  · rw [List.getElem?_eq_none (by omega)]; simp
theorem gW_bound {n : Nat} {v : List Int} (h : VOk n v) (s i : Nat) : -1036800000000 ≤ gW n v s i ∧ gW n v s i ≤ 1036800000000 := by
  unfold gW
  split
  · have h1 := wt_bound h.n6 (k := pc n s) (by have := pc_le n s; have := h.n6; omega)
    have a1 := getD_range h s
    have a2 := getD_range h (s ||| 2 ^ i)
    have := mul_abs (B := 2000000) h1 (b := v.getD (s ||| 2 ^ i) 0 - v.getD s 0) (by omega)
    omega
  · omega
def shareL (n : Nat) (v : List Int) : List Int := accW (gW n v) n (2 ^ n) 0
theorem pc_room {s i : Nat} (h : shr s i % 2 = 0) : ∀ k, i < k → pc k s ≤ k - 1
  | 0, hk => by omega
  | k + 1, hk => by
    simp only [pc]
    by_cases e : i = k
    · subst e; have := pc_le i s; omega
    · have := pc_room h k (by omega); omega
theorem share_specW (n : Nat) (v : List Int) (h : VOk n v) : FnSpec Sy.P 59 [.int n, .sl false 1 ((v).map .int)] [.int n, .sl false 1 ((v).map .int)] (.tup [.sl true 1 ((shareL n v).map .int), .int 0]) := by
  have h1 := h.n1; have h2 := h.n6; have h3 := h.len
  have h64 := pow64w h2
  have hC := worthCheck_spec n v h
  refine FnSpec.enter (S := Sy) 0 Tryz.func59 rfl rfl rfl Tryz.ntmps59 rfl rfl rfl rfl fun v0 => ?_
  (repeat' (first | refine w9x ?_ | refine w9p (hC) ?_ | (refine w9c ?_ ?_ <;> intro _ <;> try exact w9o) | (refine w9d ?_ ?_ <;> intro _ <;> try exact w9s) | (refine w9q ?_; intro bnil hbnil)))
  refine CW.loop (fun s : Nat => [(0, .av (.int (n))), (1, .av (.sl false 1 ((v).map .int))), (7, .av (.sl true 1 ((accW (gW n v) n s 0).map .int))), (20, .av (.int (v.length))), (21, .av (.int (s)))]) (fun s => s ≤ 2 ^ n) (fun s => 2 ^ n - s) (0) ?_ (by (repeat' (first | exact trivial | rfl | refine And.intro ?_ ?_ | exact int_congr (by omega) | exact int_congr (by dsimp only; omega) | exact ints_congr (by first | assumption | exact Eq.symm (by assumption)) | exact int_congr (by assumption) | exact bool_congr (by first | assumption | exact Eq.symm (by assumption)) | exact map_congr' (by first | assumption | exact Eq.symm (by assumption)) | exact ints_congr (by rw [Int.toNat_natCast]; exact accW_zero)))) ?_
  · exact Nat.zero_le _
  intro s hs
  by_cases hsl : s < 2 ^ n
  · (repeat' (first | refine w9x ?_ | (refine w9c ?_ ?_ <;> intro _ <;> try exact w9o) | (refine w9d ?_ ?_ <;> intro _ <;> try exact w9s) | (refine w9q ?_; intro bnil hbnil)))
    refine CW.loop (fun i : Nat => [(0, .av (.int (n))), (1, .av (.sl false 1 ((v).map .int))), (7, .av (.sl true 1 ((accW (gW n v) n s i).map .int))), (8, .av (.int (s))), (20, .av (.int (v.length))), (21, .av (.int (s))), (24, .av (.int (n))), (25, .av (.int (i)))]) (fun i => i ≤ n) (fun i => n - i) (0) ?_ (by exact w9a) ?_
    · exact Nat.zero_le _
    intro i hi
    by_cases hil : i < n
    · have hi62 : i ≤ 62 := by omega
      have hss := shr_le s i
      have hp2 : 2 ^ i ≤ 64 := pow64w (by omega)
      have hlen2 := accW_length (gW n v) n s i
      have hat := accW_at (g := gW n v) (s := s) hil
      by_cases c1 : shr s i % 2 = 0
      · have hsz := size_spec s n hsl h2
        have hroom := pc_room c1 n hil
        have hf1 := factW_specI (pc n s) ((pc n s : Nat) : Int) rfl (by omega)
        have hf2 := factW_specI (n - 1 - pc n s) ((n : Int) - 1 - ((pc n s : Nat) : Int)) (by omega) (by omega)
        have hor := Nat.or_lt_two_pow hsl (Nat.pow_lt_pow_right (by decide) hil)
        have hv1 : v[s]? = some (v.getD s 0) := by rw [List.getD_eq_getElem?_getD, List.getElem?_eq_getElem (by omega)]; rfl
        have hv2 : v[s ||| 2 ^ i]? = some (v.getD (s ||| 2 ^ i) 0) := by rw [List.getD_eq_getElem?_getD, List.getElem?_eq_getElem (by omega)]; rfl
        have a1 := getD_range h s
        have a2 := getD_range h (s ||| 2 ^ i)
        have hbd := sum_range_abs (f := fun s' => gW n v s' i) (m := 1036800000000) s fun k _ => gW_bound h k i
        have hg := gW_bound h s i
        have hwt := wt_bound h2 (k := pc n s) (by omega)
        have hgy := gW_yes (n := n) (v := v) c1
        have hk := accW_succ (g := gW n v) (s := s) hil hgy.symm
        rw [hgy] at hg
        unfold wt at hwt hg hk
        have hs64 : (s : Int) ≤ 64 := by omega
        generalize ((List.range s).map fun s' => gW n v s' i).sum = A at *
        generalize v.getD (s ||| 2 ^ i) 0 = y2 at *
        generalize v.getD s 0 = y1 at *
        (repeat' (first | refine w9x ?_ | refine w9p (hsz) ?_ | refine w9p (hf1) ?_ | refine w9p (hf2) ?_ | (refine w9c ?_ ?_ <;> intro _ <;> try exact w9o) | (refine w9d ?_ ?_ <;> intro _ <;> try exact w9s) | (refine w9q ?_; intro bnil hbnil)))
        refine ⟨i+1, ?_, by first | omega | (simp only; omega), by exact w9a⟩
        omega
      · have hk := accW_skip (g := gW n v) (s := s) hil (gW_no c1)
        (repeat' (first | refine w9x ?_ | (refine w9c ?_ ?_ <;> intro _ <;> try exact w9o) | (refine w9d ?_ ?_ <;> intro _ <;> try exact w9s) | (refine w9q ?_; intro bnil hbnil)))
        refine ⟨i+1, ?_, by first | omega | (simp only; omega), by exact w9a⟩
        omega
    · obtain rfl : i = n := by omega
      rw [accW_end]
      (repeat' (first | refine w9x ?_ | (refine w9c ?_ ?_ <;> intro _ <;> try exact w9o) | (refine w9d ?_ ?_ <;> intro _ <;> try exact w9s) | (refine w9q ?_; intro bnil hbnil)))
      refine ⟨s+1, ?_, by first | omega | (simp only; omega), by exact w9a⟩
      omega
  · obtain rfl : s = 2 ^ n := by omega
    (repeat' (first | refine w9x ?_ | (refine w9c ?_ ?_ <;> intro _ <;> try exact w9o) | (refine w9d ?_ ?_ <;> intro _ <;> try exact w9s) | (refine w9q ?_; intro bnil hbnil)))
    exact .mk rfl rfl rfl
theorem tmod_rest (k n : Int) (hn : 0 < n) : k % n = if k.tmod n < 0 then k.tmod n + n else k.tmod n := by
  have h1 := Int.emod_nonneg k (show n ≠ 0 by omega)
  have h2 := Int.emod_lt_of_pos k hn
  have h3 := Int.tmod_lt_of_pos k hn
  have h4 := Int.lt_tmod_of_pos k hn
  have h5 := Int.mul_tdiv_add_tmod k n
  have h6 := Int.mul_ediv_add_emod k n
  have h7 : n * (k.tdiv n) - n * (k / n) = n * (k.tdiv n - k / n) := by rw [Int.mul_sub]
  have h8 : n * (k.tdiv n - k / n) = k % n - k.tmod n := by omega
  have h9 : k.tdiv n - k / n = 0 ∨ k.tdiv n - k / n = 1 := by
    have hd : 0 ≤ k.tdiv n - k / n ∧ k.tdiv n - k / n ≤ 1 := by
      constructor
      · refine Int.not_lt.1 fun h => ?_
        have : n * (k.tdiv n - k / n) ≤ n * (-1) := Int.mul_le_mul_of_nonneg_left (by omega) (by omega)
        omega
      · refine Int.not_lt.1 fun h => ?_
        have : n * 2 ≤ n * (k.tdiv n - k / n) := Int.mul_le_mul_of_nonneg_left (by omega) (by omega)
        omega
    omega
  rcases h9 with h9 | h9
  · rw [h9, Int.mul_zero] at h8
    rw [if_neg (by omega)]; omega
  · rw [h9, Int.mul_one] at h8
    rw [if_pos (by omega)]; omega
theorem krest_spec (k n : Int) (hn : 0 < n ∧ n ≤ 4611686018427387904) : FnSpec Sy.P 54 [.int k, .int n] [.int k, .int n] (.int (k % n)) := by
  have e := tmod_rest k n hn.1
  have h3 := Int.tmod_lt_of_pos k hn.1
  have h4 := Int.lt_tmod_of_pos k hn.1
  rw [e]
  refine FnSpec.enter (S := Sy) 0 Tryz.func54 rfl rfl rfl Tryz.ntmps54 rfl rfl rfl rfl fun v0 => ?_
  by_cases h : k.tmod n < 0
  · rw [if_pos h]
    (repeat' (first | refine w9x ?_ | (refine w9c ?_ ?_ <;> intro _ <;> try exact w9o) | (refine w9d ?_ ?_ <;> intro _ <;> try exact w9s) | (refine w9q ?_; intro bnil hbnil)))
    exact .mk rfl rfl rfl
  · rw [if_neg h]
    (repeat' (first | refine w9x ?_ | (refine w9c ?_ ?_ <;> intro _ <;> try exact w9o) | (refine w9d ?_ ?_ <;> intro _ <;> try exact w9s) | (refine w9q ?_; intro bnil hbnil)))
    exact .mk rfl rfl rfl
theorem within_spec (k n : Int) (hn : 0 < n ∧ n ≤ 4611686018427387904) : FnSpec Sy.P 17 [.int k, .int n] [.int k, .int n] (.int (k % n)) := by
  have hR := krest_spec k n hn
  refine FnSpec.enter (S := Sy) 0 Tryz.func17 rfl rfl rfl Tryz.ntmps17 rfl rfl rfl rfl fun v0 => ?_
  (repeat' (first | refine w9x ?_ | refine w9p (hR) ?_ | (refine w9c ?_ ?_ <;> intro _ <;> try exact w9o) | (refine w9d ?_ ?_ <;> intro _ <;> try exact w9s) | (refine w9q ?_; intro bnil hbnil)))
  exact .mk rfl rfl rfl
/-! ### no error at all -/
theorem indexE_spec (l : List Int) (D : Int → Prop) (p : Int → Bool) (hl : l.length ≤ 9223372036854775807) (hD : ∀ x ∈ l, D x) : FnSpec Sy.P 109 [.sl false 1 ((l).map .int), fnI Sy.P D p] [.sl false 1 ((l).map .int), fnI Sy.P D p] (.int (fidx p l 0)) := by
  refine FnSpec.enter (S := Sy) 0 Tryz.func109 rfl rfl rfl Tryz.ntmps109 rfl rfl rfl rfl fun v0 => ?_
  (repeat' (first | refine w9x ?_ | (refine w9c ?_ ?_ <;> intro _ <;> try exact w9o) | (refine w9d ?_ ?_ <;> intro _ <;> try exact w9s) | (refine w9q ?_; intro bnil hbnil)))
  refine CW.loop (fun k : Nat => [(0, .av (.sl false 1 ((l).map .int))), (1, .av (fnI Sy.P D p)), (7, .av (.int (l.length))), (8, .av (.int (k)))]) (fun k => k ≤ l.length ∧ fidx p l 0 = fidx p (l.drop k) k) (fun k => l.length - k) (0) ?_ (by exact w9a) ?_
  · exact ⟨Nat.zero_le _, rfl⟩
  intro k ⟨hk, hp⟩
  by_cases hlt : k < l.length
  · have hx : l[k]? = some l[k] := List.getElem?_eq_getElem hlt
    have hd : D l[k] := hD _ (List.getElem_mem hlt)
    rw [fidx_drop hlt] at hp
    cases hb : p l[k] with
    | true =>
      rw [hb, cond_true] at hp
      rw [hp]
      (repeat' (first | refine w9x ?_ | (refine J.callF [.int l[k]] rfl rfl rfl ⟨_, rfl, hd⟩ (by (repeat' (first | exact ArgsOk.nil | apply ArgsOk.cons | exact ArgOk.pl rfl rfl | exact ArgOk.br rfl AV.noConfusion (by first | rfl | exact sh_int | exact sh_rows | exact sh_rowsO | exact sh_box | exact sh_map (fun _ => rfl))))) (by first | assumption | rfl | simp) rfl ?_) | (refine J.callFQ [.int l[k]] rfl rfl rfl ⟨_, rfl, hd⟩ (by (repeat' (first | exact ArgsOk.nil | apply ArgsOk.cons | exact ArgOk.pl rfl rfl | exact ArgOk.br rfl AV.noConfusion (by first | rfl | exact sh_int | exact sh_rows | exact sh_rowsO | exact sh_box | exact sh_map (fun _ => rfl))))) (by first | assumption | rfl | simp) rfl ?_) | (refine w9c ?_ ?_ <;> intro _ <;> try exact w9o) | (refine w9d ?_ ?_ <;> intro _ <;> try exact w9s) | (refine w9q ?_; intro bnil hbnil)))
      all_goals first | (rw [hb] at *; contradiction) | exact .mk rfl rfl rfl
    | false =>
      rw [hb, cond_false] at hp
      (repeat' (first | refine w9x ?_ | (refine J.callF [.int l[k]] rfl rfl rfl ⟨_, rfl, hd⟩ (by (repeat' (first | exact ArgsOk.nil | apply ArgsOk.cons | exact ArgOk.pl rfl rfl | exact ArgOk.br rfl AV.noConfusion (by first | rfl | exact sh_int | exact sh_rows | exact sh_rowsO | exact sh_box | exact sh_map (fun _ => rfl))))) (by first | assumption | rfl | simp) rfl ?_) | (refine J.callFQ [.int l[k]] rfl rfl rfl ⟨_, rfl, hd⟩ (by (repeat' (first | exact ArgsOk.nil | apply ArgsOk.cons | exact ArgOk.pl rfl rfl | exact ArgOk.br rfl AV.noConfusion (by first | rfl | exact sh_int | exact sh_rows | exact sh_rowsO | exact sh_box | exact sh_map (fun _ => rfl))))) (by first | assumption | rfl | simp) rfl ?_) | (refine w9c ?_ ?_ <;> intro _ <;> try exact w9o) | (refine w9d ?_ ?_ <;> intro _ <;> try exact w9s) | (refine w9q ?_; intro bnil hbnil)))
      all_goals first | (rw [hb] at *; contradiction) | skip
      refine ⟨k+1, ?_, by first | omega | (simp only; omega), by exact w9a⟩
      exact ⟨by omega, hp⟩
  · obtain rfl : k = l.length := by omega
    rw [fidx_end] at hp
    rw [hp]
    (repeat' (first | refine w9x ?_ | (refine w9c ?_ ?_ <;> intro _ <;> try exact w9o) | (refine w9d ?_ ?_ <;> intro _ <;> try exact w9s) | (refine w9q ?_; intro bnil hbnil)))
    exact .mk rfl rfl rfl
theorem containsE_spec (l : List Int) (D : Int → Prop) (p : Int → Bool) (hl : l.length ≤ 9223372036854775807) (hD : ∀ x ∈ l, D x) : FnSpec Sy.P 60 [.sl false 1 ((l).map .int), fnI Sy.P D p] [.sl false 1 ((l).map .int), fnI Sy.P D p] (.bool (l.any p)) := by
  refine FnSpec.enter (S := Sy) 0 Tryz.func60 rfl rfl rfl Tryz.ntmps60 rfl rfl rfl rfl fun v0 => ?_
  have h := indexE_spec l D p hl hD
  (repeat' (first | refine w9x ?_ | refine w9p (h) ?_ | (refine w9c ?_ ?_ <;> intro _ <;> try exact w9o) | (refine w9d ?_ ?_ <;> intro _ <;> try exact w9s) | (refine w9q ?_; intro bnil hbnil)))
  exact .mk rfl (congrArg AV.bool fidx_any.symm) rfl
def isErr (e : Int) : Bool := decide (e ≠ 0)
theorem tgood1_spec (x : Int) : FnSpec Sy.P 61 [.int x] [.int x] (.bool (isErr x)) := by
  refine FnSpec.enter (S := Sy) 0 Tryz.func61 rfl rfl rfl Tryz.ntmps61 rfl rfl rfl rfl fun v0 => ?_
  by_cases h : x = 0
  · rw [show isErr x = false from decide_eq_false (fun h' => h' h)]
    (repeat' (first | refine w9x ?_ | (refine w9c ?_ ?_ <;> intro _ <;> try exact w9o) | (refine w9d ?_ ?_ <;> intro _ <;> try exact w9s) | (refine w9q ?_; intro bnil hbnil)))
    exact .mk rfl (congrArg AV.bool (by simp [h])) rfl
  · rw [show isErr x = true from decide_eq_true h]
    (repeat' (first | refine w9x ?_ | (refine w9c ?_ ?_ <;> intro _ <;> try exact w9o) | (refine w9d ?_ ?_ <;> intro _ <;> try exact w9s) | (refine w9q ?_; intro bnil hbnil)))
    exact .mk rfl (congrArg AV.bool (by simp [h])) rfl
theorem tgood1_arg {m : Nat} {v : Nat → Value} {N : Nat} {σ : St} : ArgOk (Sy.fixed m v) N σ (.func 61) true (fnI Sy.P (fun _ => True) isErr) :=
  .funI (tgood1_spec 0).ok fun x _ => tgood1_spec x
theorem tgood_spec (l : List Int) (hl : l.length ≤ 9223372036854775807) : FnSpec Sy.P 22 [.sl false 1 ((l).map .int)] [.sl false 1 ((l).map .int)] (.bool (!(l.any isErr))) := by
  refine FnSpec.enter (S := Sy) 0 Tryz.func22 rfl rfl rfl Tryz.ntmps22 rfl rfl rfl rfl fun v0 => ?_
  have hC := containsE_spec l (fun _ => True) isErr hl (fun _ _ => trivial)
  (repeat' (first | refine w9x ?_ | ((with_reducible first | apply J.callP (hC) | apply J.callPQ (hC)); rfl; rfl; (repeat' (first | exact ArgsOk.nil | exact tgood1_arg | apply ArgsOk.cons | exact ArgOk.pl rfl rfl | exact ArgOk.br rfl AV.noConfusion (by first | rfl | exact sh_int | exact sh_rows | exact sh_rowsO | exact sh_box | exact sh_map (fun _ => rfl)))); (first | rfl | exact gn0 | exact gnI)) | (refine w9c ?_ ?_ <;> intro _ <;> try exact w9o) | (refine w9d ?_ ?_ <;> intro _ <;> try exact w9s) | (refine w9q ?_; intro bnil hbnil)))
  exact .mk rfl rfl rfl
theorem works_spec : FnSpec Sy.P 21 [] [] (.bool true) := by
  refine FnSpec.enter (S := Sy) 0 Tryz.func21 rfl rfl rfl Tryz.ntmps21 rfl rfl rfl rfl fun v0 => ?_
  have hF := orderFar_spec [0, 1, 2] [2, 0, 1] (by decide) (by decide)
  rw [show far [2, 0, 1] [0, 1, 2] = 2 by decide] at hF
  have hS := share_specW 2 [0, 0, 2, 6] ⟨by decide, by decide, by decide, by decide, by decide⟩
  rw [show shareL 2 [0, 0, 2, 6] = [4, 8] by decide] at hS
  have hE := equal_spec [4, 8] [4, 8] (by decide)
  rw [decide_eq_true rfl] at hE
  (repeat' (first | refine w9x ?_ | refine w9p (hF) ?_ | refine w9p (hS) ?_ | refine w9p (hE) ?_ | (refine w9c ?_ ?_ <;> intro _ <;> try exact w9o) | (refine w9d ?_ ?_ <;> intro _ <;> try exact w9s) | (refine w9q ?_; intro bnil hbnil)))
  all_goals first | exact .mk rfl rfl rfl | exact .mk rfl (congrArg AV.bool (by simp_all)) rfl
end Go.Proofs.YtkkcnppgcnmikaaGreatDoor.W
