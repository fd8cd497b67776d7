/- Goods that are all alike are sold as units are: prices by rank. No program in sight. -/
import Derived.Test.YtohgcgedbhlnfaaTp
namespace Go.Proofs.Ytohgcgedbhlnfaa
open Go FM
set_option maxRecDepth 10000
set_option linter.all false
theorem nGe_snoc {b : Nat → Int} {π : Int} : ∀ (m i : Nat), nGe b (-1) π i (m + 1) = nGe b (-1) π i m + (if π ≤ b (i + m) then 1 else 0)
  | 0, i => by
    simp only [nGe, Nat.add_zero]
    by_cases h : π ≤ b i
    · rw [if_pos ⟨by omega, h⟩, if_pos h]
    · rw [if_neg (fun c => h c.2), if_neg h]
  | m + 1, i => by
    have ih := nGe_snoc (b := b) (π := π) m (i + 1)
    rw [nGe, ih, nGe, show i + 1 + m = i + (m + 1) by omega]; omega
theorem nHi_snoc {b : Nat → Int} {π : Int} : ∀ (m i : Nat), nHi b (-1) π i (m + 1) = nHi b (-1) π i m + (if π < b (i + m) then 1 else 0)
  | 0, i => by
    simp only [nHi, Nat.add_zero]
    by_cases h : π < b i
    · rw [if_pos ⟨by omega, h⟩, if_pos h]
    · rw [if_neg (fun c => h c.2), if_neg h]
  | m + 1, i => by
    have ih := nHi_snoc (b := b) (π := π) m (i + 1)
    rw [nHi, ih, nHi, show i + 1 + m = i + (m + 1) by omega]; omega
theorem nGe_count {b : Nat → Int} {π : Int} : ∀ n, nGe b (-1) π 0 n = (List.range n).countP fun k => decide (π ≤ b k)
  | 0 => rfl
  | n + 1 => by rw [nGe_snoc, nGe_count n, List.range_succ, List.countP_append, Nat.zero_add]; simp [List.countP_cons]
theorem nHi_count {b : Nat → Int} {π : Int} : ∀ n, nHi b (-1) π 0 n = (List.range n).countP fun k => decide (π < b k)
  | 0 => rfl
  | n + 1 => by rw [nHi_snoc, nHi_count n, List.range_succ, List.countP_append, Nat.zero_add]; simp [List.countP_cons]
theorem count_rk {l : List Int} {p : Nat → Bool} : (List.range l.length).countP p = (rk l).countP fun x => p x.toNat := by
  rw [(rk_ok l).perm.countP_eq, List.countP_map]
  congr 1
/-- Where the price stands. -/
theorem price_ok (l : List Int) (g : Nat) (h0 : ∀ i, 0 ≤ at0 l i) : 0 ≤ prS l g ∧ nHi (at0 l) (-1) (prS l g) 0 l.length ≤ g ∧ (prS l g = 0 ∨ g + 1 ≤ nGe (at0 l) (-1) (prS l g) 0 l.length) ∧ (l.length ≤ g → prS l g = 0) := by
  unfold prS
  have hR := rk_ok l
  have hl := hR.length
  have hs := hR.srt
  rw [nHi_count, nGe_count, count_rk, count_rk]
  by_cases hg : g < l.length
  · rw [if_pos hg]
    have hgl : g < (rk l).length := by omega
    have hq : (rk l).getD g 0 = (rk l)[g] := by rw [List.getD_eq_getElem?_getD, List.getElem?_eq_getElem hgl]; rfl
    rw [hq]
    rw [List.pairwise_iff_getElem] at hs
    have up : ∀ j, (hj : j < (rk l).length) → j ≤ g → at0 l ((rk l)[g]).toNat ≤ at0 l ((rk l)[j]).toNat := fun j hj hjg => by
      by_cases e : j = g
      · subst e; exact Int.le_refl _
      · have := hs j g hj hgl (by omega)
        unfold ahd at this; omega
    have dn : ∀ j, (hj : j < (rk l).length) → g ≤ j → at0 l ((rk l)[j]).toNat ≤ at0 l ((rk l)[g]).toNat := fun j hj hjg => by
      by_cases e : j = g
      · subst e; exact Int.le_refl _
      · have := hs g j hgl hj (by omega)
        unfold ahd at this; omega
    have e1 := List.take_append_drop g (rk l)
    have e2 := List.take_append_drop (g + 1) (rk l)
    refine ⟨h0 _, ?_, .inr ?_, fun h => by omega⟩
    · have ec := congrArg (List.countP fun x => decide (at0 l ((rk l)[g]).toNat < at0 l x.toNat)) e1
      rw [List.countP_append] at ec
      have a1 : (List.drop g (rk l)).countP (fun x => decide (at0 l ((rk l)[g]).toNat < at0 l x.toNat)) = 0 := by
        rw [List.countP_eq_zero]
        intro x hx
        obtain ⟨j, hj, rfl⟩ := List.getElem_of_mem hx
        rw [List.length_drop] at hj
        have := dn (g + j) (by omega) (by omega)
        rw [List.getElem_drop]
        simp only [decide_eq_true_eq]
        omega
      have a2 := List.countP_le_length (p := fun x => decide (at0 l ((rk l)[g]).toNat < at0 l x.toNat)) (l := List.take g (rk l))
      rw [List.length_take] at a2
      omega
    · have a1 : (List.take (g + 1) (rk l)).countP (fun x => decide (at0 l ((rk l)[g]).toNat ≤ at0 l x.toNat)) = (List.take (g + 1) (rk l)).length := by
        rw [List.countP_eq_length]
        intro x hx
        obtain ⟨j, hj, rfl⟩ := List.getElem_of_mem hx
        rw [List.length_take] at hj
        have := up j (by omega) (by omega)
        rw [List.getElem_take]
        simp only [decide_eq_true_eq]
        omega
      rw [List.length_take] at a1
      have a3 : (List.take (g + 1) (rk l)).countP (fun x => decide (at0 l ((rk l)[g]).toNat ≤ at0 l x.toNat)) ≤ (rk l).countP (fun x => decide (at0 l ((rk l)[g]).toNat ≤ at0 l x.toNat)) := (List.take_sublist _ _).countP_le
      omega
  · rw [if_neg hg]
    refine ⟨Int.le_refl _, ?_, .inl rfl, fun _ => rfl⟩
    have := List.countP_le_length (p := fun x : Int => decide (0 < at0 l x.toNat)) (l := rk l)
    omega
theorem hvV_snoc {b : Nat → Int} : ∀ (ms : List Bool) (i : Nat) (t : Bool), hvV b (-1) i (ms ++ [t]) = hvV b (-1) i ms + (if t = true then b (i + ms.length) else 0)
  | [], i, t => by
    simp only [List.nil_append, hvV, List.length_nil, Nat.add_zero, Int.add_zero, Int.zero_add]
    by_cases h : t = true
    · rw [if_pos ⟨h, by omega⟩, if_pos h]
    · rw [if_neg (fun c => h c.1), if_neg h]
  | u :: r, i, t => by
    have ih := hvV_snoc (b := b) r (i + 1) t
    simp only [List.cons_append, hvV, List.length_cons]
    rw [ih, show i + 1 + r.length = i + (r.length + 1) by omega]; omega
/-- The law itself. -/
theorem sale_law (l : List Int) (g : Nat) (h0 : ∀ i, 0 ≤ at0 l i) (s : List Int) (m : Int) (hs : G.bst g (fun i _ => at0 l i) (-1) l.length 0 0 = (s, m)) :
    s.length = l.length ∧ hvV (at0 l) (-1) 0 (has s) = m ∧ ∀ i, (hi : i < s.length) →
      (0 ≤ s[i] → G.payW l.length g (fun i _ => at0 l i) i = prS l g) ∧ (s[i] < 0 → G.payW l.length g (fun i _ => at0 l i) i = 0 ∧ at0 l i ≤ prS l g) := by
  obtain ⟨p0, p1, p2, p3⟩ := price_ok l g h0
  generalize hπ : prS l g = π at *
  have hS := G.bst_Sm (g := g) (w := fun i _ => at0 l i) (wo := -1) l.length 0 0
  obtain ⟨x, hx, e⟩ := hS.mem
  rw [hs] at e
  simp only [Prod.mk.injEq] at e
  obtain ⟨rfl, e⟩ := e
  obtain ⟨hl, hc⟩ := en_has l.length 0 s hx
  rw [fre_zero] at hc
  have hlen : s.length = l.length := by unfold has at hl; simpa using hl
  have hm : hvV (at0 l) (-1) 0 (has s) = m := by rw [e, vl_has]
  have hopt := bst_alike (b := at0 l) (wo := -1) (π := π) (n := l.length) (g := g) p0 p1 (by omega)
  rw [hs] at hopt
  simp only at hopt
  have hgm : ((nT (has s) : Nat) : Int) * π ≤ (g : Int) * π := Int.mul_le_mul_of_nonneg_right (by omega) p0
  have ht := hvV_tight (b := at0 l) p0 (has s) 0 (by omega) (by rw [hl, hm]; omega)
  refine ⟨hlen, hm, fun i hi => ?_⟩
  have hi2 : i < (has s).length := by omega
  have ht2 := ht i hi2
  have hhi : (has s)[i] = decide (0 ≤ s[i]) := by simp [has]
  rw [hhi, Nat.zero_add] at ht2
  have hw := nHi_without (b := at0 l) (π := π) (wo := (i : Int)) l.length 0
  have hg2 := nGe_without (b := at0 l) (π := π) (j := i) l.length 0
  rw [if_pos (Nat.zero_le _)] at hg2
  have hoi := bst_alike (b := at0 l) (wo := (i : Int)) (π := π) (n := l.length) (g := g) p0 (by omega) (by omega)
  have hab := abv_without (b := at0 l) (π := π) l.length 0 i (Nat.zero_le _) (by omega)
  have hgd : s.getD i 0 = s[i] := by rw [List.getD_eq_getElem?_getD, List.getElem?_eq_getElem hi]; rfl
  have hpay : G.payW l.length g (fun i _ => at0 l i) i = (abv (at0 l) (i : Int) π 0 l.length + g * π) - (m - G.ownOf (fun i _ => at0 l i) i s[i]) := by
    unfold G.payW
    rw [hs, hoi]
    simp only
    rw [hgd]
  refine ⟨fun h => ?_, fun h => ?_⟩
  · have := ht2.1 (decide_eq_true h)
    rw [hpay]
    unfold G.ownOf
    rw [if_pos h]
    simp only
    omega
  · have := ht2.2 (decide_eq_false (by omega))
    refine ⟨?_, this⟩
    rw [hpay]
    unfold G.ownOf
    rw [if_neg (by omega)]
    omega
end Go.Proofs.Ytohgcgedbhlnfaa
