/- One thing, many bids: the plain law. No program in sight. -/
import Derived.Test.YtohgcgedbhlnfaaGb
namespace Go.Proofs.Ytohgcgedbhlnfaa
open Go FM
set_option linter.all false
abbrev at0 (l : List Int) (i : Nat) : Int := l.getD i 0
theorem at0_get {l : List Int} {i : Nat} (h : i < l.length) : at0 l i = l[i] := by unfold at0; rw [List.getD_eq_getElem?_getD, List.getElem?_eq_getElem h]; rfl
def badBid (x : Int) : Bool := decide (x < 0 ∨ 1000000 < x)
def bidE (l : List Int) (r : Int) : Int := if 10 < l.length then 2 else if l.any badBid = true ∨ r < 0 ∨ 1000000 < r then 1 else 0
structure BOk (l : List Int) (r : Int) : Prop where
  len : l.length ≤ 10
  ok : ∀ x ∈ l, 0 ≤ x ∧ x ≤ 1000000
  r0 : 0 ≤ r
  r1 : r ≤ 1000000
theorem bidE_ok {l : List Int} {r : Int} (h : bidE l r = 0) : BOk l r := by
  unfold bidE at h
  split at h
  · cases h
  · split at h
    · cases h
    · rename_i h1 h2
      have h3 : ¬ (l.any badBid = true) := fun e => h2 (.inl e)
      refine ⟨by omega, fun x hx => ?_, by omega, by omega⟩
      have : ¬ badBid x = true := fun e => h3 (List.any_eq_true.2 ⟨x, hx, e⟩)
      unfold badBid at this
      rw [decide_eq_true_iff] at this
      omega
theorem BOk.at {l : List Int} {r : Int} (h : BOk l r) (i : Nat) : 0 ≤ at0 l i ∧ at0 l i ≤ 1000000 := by
  by_cases hi : i < l.length
  · rw [at0_get hi]; exact h.ok _ (List.getElem_mem hi)
  · unfold at0; rw [List.getD_eq_getElem?_getD, List.getElem?_eq_none (by omega)]; simp
/-- Who bids most, the first of several. -/
def bst (l : List Int) (r : Int) (k : Nat) : Int := fb (fun i => decide (r ≤ at0 l i)) (fun _ => 1) (at0 l) k
theorem bst_succ {l : List Int} {r : Int} {k : Nat} (h : k < l.length) : bst l r (k + 1) = if r ≤ l[k] ∧ (bst l r k < 0 ∨ at0 l (bst l r k).toNat < l[k]) then (k : Int) else bst l r k := by
  show (if decide (r ≤ at0 l k) = true ∧ (bst l r k < 0 ∨ at0 l (bst l r k).toNat * 1 < at0 l k * 1) then (k : Int) else bst l r k) = _
  simp only [decide_eq_true_eq, Int.mul_one]
  rw [at0_get h]
theorem bst_range (l : List Int) (r : Int) (k : Nat) : -1 ≤ bst l r k ∧ bst l r k < k := by
  rcases fb_range (e := fun i => decide (r ≤ at0 l i)) (w := fun _ => 1) (v := at0 l) k with h | ⟨j, h, hj, _⟩
  · unfold bst; rw [h]; omega
  · unfold bst; rw [h]; omega
/-- The most that others bid. -/
def oth (l : List Int) (r b : Int) : Nat → Int
  | 0 => r
  | k + 1 => if (k : Int) = b then oth l r b k else max (oth l r b k) (at0 l k)
theorem oth_ge {l : List Int} {r b : Int} : ∀ k, r ≤ oth l r b k ∧ ∀ i, i < k → (i : Int) ≠ b → at0 l i ≤ oth l r b k
  | 0 => ⟨Int.le_refl _, fun i h => by omega⟩
  | k + 1 => by
    have ih := oth_ge (l := l) (r := r) (b := b) k
    unfold oth
    by_cases e : (k : Int) = b
    · rw [if_pos e]
      refine ⟨ih.1, fun i hi hb => ?_⟩
      by_cases hik : i = k
      · subst hik; exact absurd e hb
      · exact ih.2 i (by omega) hb
    · rw [if_neg e]
      refine ⟨by have := ih.1; omega, fun i hi hb => ?_⟩
      by_cases hik : i = k
      · subst hik; omega
      · have := ih.2 i (by omega) hb; omega
theorem oth_is {l : List Int} {r b : Int} : ∀ k, oth l r b k = r ∨ ∃ i, i < k ∧ (i : Int) ≠ b ∧ oth l r b k = at0 l i
  | 0 => .inl rfl
  | k + 1 => by
    have ih := oth_is (l := l) (r := r) (b := b) k
    unfold oth
    by_cases e : (k : Int) = b
    · rw [if_pos e]
      rcases ih with h | ⟨i, h1, h2, h3⟩
      · exact .inl h
      · exact .inr ⟨i, by omega, h2, h3⟩
    · rw [if_neg e]
      rcases Int.le_total (oth l r b k) (at0 l k) with h | h
      · exact .inr ⟨k, by omega, e, by omega⟩
      · rw [show max (oth l r b k) (at0 l k) = oth l r b k by omega]
        rcases ih with h | ⟨i, h1, h2, h3⟩
        · exact .inl h
        · exact .inr ⟨i, by omega, h2, h3⟩
theorem oth_bound {l : List Int} {r b : Int} (h : BOk l r) (k : Nat) : 0 ≤ oth l r b k ∧ oth l r b k ≤ 1000000 := by
  have := h.r0; have := h.r1
  rcases oth_is (l := l) (r := r) (b := b) k with h1 | ⟨i, _, _, h3⟩
  · omega
  · have := h.at i; omega
/-! ### ranked -/
def ahd (l : List Int) (i k : Int) : Prop := at0 l k.toNat < at0 l i.toNat ∨ (at0 l i.toNat = at0 l k.toNat ∧ i ≤ k)
instance (l : List Int) (i k : Int) : Decidable (ahd l i k) := by unfold ahd; infer_instance
structure Rk (l R : List Int) : Prop where
  perm : R.Perm ((List.range l.length).map fun (k : Nat) => (k : Int))
  srt : R.Pairwise (ahd l)
theorem Rk.mem {l R : List Int} (h : Rk l R) {x : Int} : x ∈ R ↔ ∃ k : Nat, x = k ∧ k < l.length := by
  rw [h.perm.mem_iff, List.mem_map]
  exact ⟨fun ⟨k, h1, h2⟩ => ⟨k, h2.symm, List.mem_range.1 h1⟩, fun ⟨k, h1, h2⟩ => ⟨k, List.mem_range.2 h2, h1.symm⟩⟩
theorem Rk.length {l R : List Int} (h : Rk l R) : R.length = l.length := by rw [h.perm.length_eq]; simp
theorem Rk.nodup {l R : List Int} (h : Rk l R) : R.Nodup := by
  rw [h.perm.nodup_iff]
  refine List.Pairwise.map _ (fun a b (h : a ≠ b) e => h (by exact_mod_cast e)) List.nodup_range
theorem ahd_anti {l : List Int} {i k : Int} (h1 : ahd l i k) (h2 : ahd l k i) : i = k := by
  unfold ahd at h1 h2; omega
/-- Two rankings are one. -/
theorem Rk.one {l R R' : List Int} (h : Rk l R) (h' : Rk l R') : R = R' :=
  List.Perm.eq_of_pairwise (fun a b _ _ => ahd_anti) h.srt h'.srt (h.perm.trans h'.perm.symm)
theorem Rk.head {l : List Int} {b : Int} {R : List Int} (h : Rk l (b :: R)) : ∃ k : Nat, b = k ∧ k < l.length ∧ ∀ i, i < l.length → i ≠ k → at0 l i < at0 l k ∨ (at0 l i = at0 l k ∧ k < i) := by
  obtain ⟨k, hk, hl⟩ := h.mem.1 (List.mem_cons_self ..)
  refine ⟨k, hk, hl, fun i hi hne => ?_⟩
  have hm : (i : Int) ∈ R := by
    rcases List.mem_cons.1 (h.mem.2 ⟨i, rfl, hi⟩) with e | e
    · omega
    · exact e
  have := (List.pairwise_cons.1 h.srt).1 _ hm
  unfold ahd at this
  rw [hk, Int.toNat_natCast, Int.toNat_natCast] at this
  omega
theorem Rk.bst {l : List Int} {b : Int} {R : List Int} {r : Int} (h : Rk l (b :: R)) : bst l r l.length = if r ≤ at0 l b.toNat then b else -1 := by
  obtain ⟨k, hk, hl, hb⟩ := h.head
  refine isB_one (fb_isB (fun _ => by decide) l.length) ?_
  rw [hk, Int.toNat_natCast]
  by_cases hr : r ≤ at0 l k
  · rw [if_pos hr]
    refine .inr ⟨k, rfl, Nat.zero_le _, hl, decide_eq_true hr, fun i _ hi _ => ?_⟩
    by_cases e : i = k
    · subst e; exact ⟨Int.le_refl _, fun h => absurd h (Nat.lt_irrefl _)⟩
    · have := hb i hi e
      refine ⟨?_, fun _ => ?_⟩ <;> simp only [Int.mul_one] <;> omega
  · rw [if_neg hr]
    refine .inl ⟨rfl, fun i _ hi => decide_eq_false fun h => ?_⟩
    by_cases e : i = k
    · subst e; exact hr h
    · have := hb i hi e; omega
theorem Rk.oth1 {l : List Int} {b : Int} {r : Int} (h : Rk l [b]) : oth l r b l.length = r := by
  have hl := h.length
  rcases oth_is (l := l) (r := r) (b := b) l.length with h1 | ⟨i, h1, h2, _⟩
  · exact h1
  · have := h.mem.2 ⟨i, rfl, h1⟩
    rw [List.mem_singleton] at this
    exact absurd this h2
theorem Rk.oth2 {l : List Int} {b c : Int} {R : List Int} {r : Int} (h : Rk l (b :: c :: R)) : oth l r b l.length = max r (at0 l c.toNat) := by
  have hn := h.nodup
  obtain ⟨k, hk, hkl⟩ := h.mem.1 (List.mem_cons_of_mem _ (List.mem_cons_self ..))
  have hcb : c ≠ b := fun e => by
    have := (List.nodup_cons.1 hn).1
    rw [e] at this; exact this (List.mem_cons_self ..)
  have g := oth_ge (l := l) (r := r) (b := b) l.length
  have g2 := g.2 k hkl (by rw [← hk]; exact hcb)
  have hle : ∀ i, i < l.length → (i : Int) ≠ b → at0 l i ≤ at0 l c.toNat := fun i hi hb => by
    rcases List.mem_cons.1 (h.mem.2 ⟨i, rfl, hi⟩) with e | e
    · exact absurd e hb
    · rcases List.mem_cons.1 e with e | e
      · rw [← e, Int.toNat_natCast]; exact Int.le_refl _
      · have := (List.pairwise_cons.1 (List.pairwise_cons.1 h.srt).2).1 _ e
        unfold ahd at this
        rw [Int.toNat_natCast] at this
        omega
  rw [hk, Int.toNat_natCast] at hle ⊢
  rcases oth_is (l := l) (r := r) (b := b) l.length with h1 | ⟨i, h1, h2, h3⟩
  · have := g.1; omega
  · have := hle i h1 h2; have := g.1; omega
/-! ### step by step -/
def inA (l : List Int) (p : Int) : List Int := fl l.length fun i => decide (p ≤ at0 l i)
theorem inA_two {l : List Int} {r b p : Int} (h : 0 ≤ b) (hb : b = bst l r l.length) (hp : p ≤ oth l r b l.length) (hr : r < oth l r b l.length) : 2 ≤ (inA l p).length := by
  rcases fb_isB (e := fun i => decide (r ≤ at0 l i)) (w := fun _ => 1) (v := at0 l) (fun _ => by decide) l.length with ⟨h1, _⟩ | ⟨k, h1, _, h3, h4, h5⟩
  · have : bst l r l.length = -1 := h1
    omega
  · have hbk : b = k := by rw [hb]; exact h1
    rcases oth_is (l := l) (r := r) (b := b) l.length with h6 | ⟨i, h6, h7, h8⟩
    · omega
    · have hik : i ≠ k := fun e => h7 (by rw [hbk, e])
      have hri : r ≤ at0 l i := by omega
      have := (h5 i (Nat.zero_le _) h6 (decide_eq_true hri)).1
      simp only [Int.mul_one] at this
      have m1 : (k : Int) ∈ inA l p := fl_mem.2 ⟨k, rfl, h3, decide_eq_true (by omega)⟩
      have m2 : (i : Int) ∈ inA l p := fl_mem.2 ⟨i, rfl, h6, decide_eq_true (by omega)⟩
      match hA : inA l p, m1, m2 with
      | [], m1, _ => cases m1
      | [x], m1, m2 =>
        rw [List.mem_singleton] at m1 m2
        omega
      | _ :: _ :: _, _, _ => simp
def hdI : List Int → Int
  | [] => -1
  | x :: _ => x
/-- The program's way from step k on. -/
def rsP (l : List Int) (r s : Int) : Nat → Nat → Int × Int
  | 0, k => (0, 0)
  | f + 1, k => if (inA l (r + k * s)).length = 1 then (hdI (inA l (r + k * s)), r + k * s) else if (inA l (r + k * s)).length = 0 then (hdI (inA l (r + k * s - s)), r + k * s - s) else rsP l r s f (k + 1)
theorem rsP_succ (l : List Int) (r s : Int) (f k : Nat) : rsP l r s (f + 1) k = if (inA l (r + k * s)).length = 1 then (hdI (inA l (r + k * s)), r + k * s) else if (inA l (r + k * s)).length = 0 then (hdI (inA l (r + k * s - s)), r + k * s - s) else rsP l r s f (k + 1) := rfl
/-- The reference's. -/
def rsR (l : List Int) (s : Int) : Nat → Int → Int × Int
  | 0, _ => (0, 0)
  | f + 1, p => if 1 < (inA l p).length then (if (inA l (p + s)).length = 0 then (hdI (inA l p), p) else rsR l s f (p + s)) else (hdI (inA l p), p)
theorem rsR_succ (l : List Int) (s : Int) (f : Nat) (p : Int) : rsR l s (f + 1) p = if 1 < (inA l p).length then (if (inA l (p + s)).length = 0 then (hdI (inA l p), p) else rsR l s f (p + s)) else (hdI (inA l p), p) := rfl
theorem inA_none {l : List Int} {p : Int} (h : ∀ i, at0 l i < p) : inA l p = [] := by
  rw [List.eq_nil_iff_forall_not_mem]
  intro x hx
  obtain ⟨k, _, _, hk⟩ := fl_mem.1 hx
  have := of_decide_eq_true hk
  have := h k; omega
theorem rs_both {l : List Int} {r s : Int} (h : BOk l r) (hs : 1 ≤ s) : ∀ (f k : Nat), (inA l (r + k * s)).length ≠ 0 → 1000000 < r + (k + f) * s → rsP l r s (f + 1) k = rsR l s (f + 1) (r + k * s)
  | 0, k, h0, hf => by
    exfalso; apply h0
    rw [show ((0 : Nat) : Int) = 0 from rfl, Int.add_zero] at hf
    rw [inA_none (fun i => by have := (h.at i).2; omega)]; rfl
  | f + 1, k, h0, hf => by
    rw [rsP_succ, rsR_succ]
    have e : r + k * s + s = r + ((k + 1 : Nat) : Int) * s := by push_cast; rw [Int.add_mul]; omega
    rw [e]
    by_cases h1 : (inA l (r + k * s)).length = 1
    · rw [if_pos h1, if_neg (by omega)]
    · rw [if_neg h1, if_neg h0, if_pos (by omega)]
      by_cases h2 : (inA l (r + ((k + 1 : Nat) : Int) * s)).length = 0
      · rw [if_pos h2, rsP_succ]
        rw [if_neg (by omega), if_pos h2, show r + ((k + 1 : Nat) : Int) * s - s = r + k * s by rw [← e]; omega]
      · rw [if_neg h2]
        refine rs_both h hs f (k + 1) h2 ?_
        have : (((k + 1 : Nat) : Int) + (f : Int)) = (k : Int) + ((f + 1 : Nat) : Int) := by push_cast; omega
        rw [this]; exact hf
theorem rsP_skip {l : List Int} {r s : Int} (f : Nat) : ∀ (m k : Nat), (∀ j, k ≤ j → j < k + m → 2 ≤ (inA l (r + j * s)).length) → rsP l r s (m + f) k = rsP l r s f (k + m)
  | 0, k, _ => by rw [Nat.zero_add, Nat.add_zero]
  | m + 1, k, h => by
    have h1 := h k (Nat.le_refl _) (by omega)
    rw [show m + 1 + f = (m + f) + 1 by omega]
    rw [rsP_succ]
    rw [if_neg (by omega), if_neg (by omega), rsP_skip f m (k + 1) (fun j h2 h3 => h j (by omega) (by omega)), show k + 1 + m = k + (m + 1) by omega]
theorem rsP_fuel {l : List Int} {r s : Int} (h : BOk l r) (hs : 1 ≤ s) : ∀ (f g k : Nat), 1000000 < r + (k + f) * s → rsP l r s (f + 1) k = rsP l r s (f + 1 + g) k
  | 0, g, k, hf => by
    rw [show ((0 : Nat) : Int) = 0 from rfl, Int.add_zero] at hf
    have e : inA l (r + k * s) = [] := inA_none (fun i => by have := (h.at i).2; omega)
    rw [show 0 + 1 + g = g + 1 by omega, rsP_succ, rsP_succ, e]; rfl
  | f + 1, g, k, hf => by
    rw [show f + 1 + 1 + g = (f + 1 + g) + 1 by omega, rsP_succ l r s (f + 1), rsP_succ l r s (f + 1 + g)]
    rw [rsP_fuel h hs f g (k + 1) (by
      have : (((k + 1 : Nat) : Int) + (f : Int)) = (k : Int) + ((f + 1 : Nat) : Int) := by push_cast; omega
      rw [this]; exact hf)]
end Go.Proofs.Ytohgcgedbhlnfaa
