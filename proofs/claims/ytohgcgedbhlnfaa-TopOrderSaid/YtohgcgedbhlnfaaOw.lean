/- The order that is nearest to all votes, where the votes' majorities are an order. No program in sight. -/
import Derived.Test.YtohgcgedbhlnfaaMip
namespace Go.Proofs.Ytohgcgedbhlnfaa
open Go FM
set_option maxRecDepth 10000
set_option linter.all false
theorem mem_allOrders : ∀ (n : Nat) (l p : List Int), l.length = n → p.Perm l → p ∈ allOrders n l
  | 0, l, p, hl, hp => by
    obtain rfl := List.eq_nil_of_length_eq_zero hl
    rw [List.perm_nil.1 hp]; simp [allOrders]
  | n + 1, l, p, hl, hp => by
    match p, hp with
    | [], hp => have := hp.length_eq; simp at this; omega
    | x :: r, hp =>
      have hx : x ∈ l := hp.subset (List.mem_cons_self ..)
      obtain ⟨i, hi, e⟩ := List.getElem_of_mem hx
      have el : l = l.take i ++ x :: l.drop (i + 1) := by
        rw [← e, ← List.drop_eq_getElem_cons hi, List.take_append_drop]
      have hr : r.Perm (l.take i ++ l.drop (i + 1)) := by
        have h0 : l.Perm (x :: (l.take i ++ l.drop (i + 1))) := by
          conv => lhs; rw [el]
          exact List.perm_middle
        have h1 : (x :: r).Perm (x :: (l.take i ++ l.drop (i + 1))) := hp.trans h0
        exact h1.cons_inv
      simp only [allOrders, List.mem_flatMap, List.mem_map, List.mem_range]
      refine ⟨i, hi, r, mem_allOrders n _ r (cutOut_length hl hi) hr, ?_⟩
      rw [List.getD_eq_getElem?_getD, List.getElem?_eq_getElem hi]
      simp [e]
theorem bestP_min {d : List Int → Nat} : ∀ (l : List (List Int)) (o : Option (List Int × Nat)) (b : List Int) (m : Nat), l.foldl (bestS d) o = some (b, m) → (∀ q ∈ l, m ≤ d q) ∧ ∀ b' m', o = some (b', m') → m ≤ m'
  | [], o, b, m, e => ⟨fun q hq => (List.not_mem_nil hq).elim, fun b' m' e' => by rw [List.foldl_nil] at e; rw [e] at e'; cases e'; exact Nat.le_refl _⟩
  | p :: l, o, b, m, e => by
    obtain ⟨h1, h2⟩ := bestP_min l (bestS d o p) b m e
    cases o with
    | none =>
      have := h2 p (d p) rfl
      exact ⟨fun q hq => by rcases List.mem_cons.1 hq with rfl | hq; exact this; exact h1 q hq, fun b' m' e' => by cases e'⟩
    | some bm =>
      obtain ⟨b0, m0⟩ := bm
      by_cases c : d p < m0
      · have := h2 p (d p) (by simp [bestS, c])
        refine ⟨fun q hq => by rcases List.mem_cons.1 hq with rfl | hq; exact this; exact h1 q hq, fun b' m' e' => ?_⟩
        cases e'; omega
      · have := h2 b0 m0 (by simp [bestS, c])
        refine ⟨fun q hq => by rcases List.mem_cons.1 hq with rfl | hq; omega; exact h1 q hq, fun b' m' e' => ?_⟩
        cases e'; exact this
theorem map_sum_congr {l : List Int} {g g' : Int → Nat} (h : ∀ y ∈ l, g y = g' y) : (l.map g).sum = (l.map g').sum := by rw [List.map_congr_left h]
theorem farG_congr {g g' : Int → Int → Nat} : ∀ p : List Int, p.Nodup → (∀ x ∈ p, ∀ y ∈ p, x ≠ y → g x y = g' x y) → farG g p = farG g' p
  | [], _, _ => rfl
  | x :: r, hn, h => by
    obtain ⟨h1, h2⟩ := List.nodup_cons.1 hn
    unfold farG
    rw [farG_congr r h2 fun a ha b hb => h a (List.mem_cons_of_mem _ ha) b (List.mem_cons_of_mem _ hb), map_sum_congr fun y hy => h x (List.mem_cons_self ..) y (List.mem_cons_of_mem _ hy) fun e => h1 (e ▸ hy)]
theorem farG_const {c : Nat} : ∀ p q : List Int, p.length = q.length → farG (fun _ _ => c) p = farG (fun _ _ => c) q
  | [], [], _ => rfl
  | x :: r, y :: s, h => by
    have hl : r.length = s.length := by simpa using h
    unfold farG
    rw [farG_const r s hl]
    congr 2
    have e : ∀ l : List Int, l.map (fun _ => c) = List.replicate l.length c := fun l => by simp [List.map_const']
    rw [e, e, hl]
  | [], _ :: _, h => by simp at h
  | _ :: _, [], h => by simp at h
theorem sum_zero {l : List Int} {g : Int → Nat} (h : (l.map g).sum = 0) : ∀ y ∈ l, g y = 0 := by
  induction l with
  | nil => intro y hy; cases hy
  | cons a l ih =>
    rw [List.map_cons, List.sum_cons] at h
    intro y hy
    rcases List.mem_cons.1 hy with rfl | hy
    · omega
    · exact ih (by omega) y hy
theorem farG_zero_pw {p : List Int} : ∀ b : List Int, farG (fun x y => if ix p y < ix p x then 1 else 0) b = 0 → b.Pairwise fun x y => ix p x ≤ ix p y
  | [], _ => .nil
  | x :: r, h => by
    unfold farG at h
    refine List.pairwise_cons.2 ⟨fun y hy => ?_, farG_zero_pw r (by omega)⟩
    have h0 : (r.map fun y => if ix p y < ix p x then 1 else 0).sum = 0 := by omega
    have := sum_zero h0 y hy
    split at this
    · omega
    · omega
theorem btw_self {n : Nat} {p : List Int} : btw n p p = 0 := by
  have e : ∀ (f : Nat → Nat) n, (∀ k, f k = 0) → sm n f = 0 := fun f n hf => by
    have := sm_le (n := n) (f := f) (m := 0) fun k _ => by rw [hf k]; exact Nat.le_refl _
    omega
  unfold btw
  exact e _ _ fun x => e _ _ fun y => by rw [if_neg (by simp)]
theorem best_order {n : Nat} {V : List (List Int)} {p b : List Int} {m C : Nat} (h6 : n ≤ 6) (hV : ∀ q ∈ V, okO n q) (hp : okO n p) (hC : 1 ≤ C)
    (hc : ∀ x ∈ p, ∀ y ∈ p, x ≠ y → cntI V x y = if ix p y < ix p x then C + 1 else C - 1) (hb : bestP (dsum n V) (allOrders n (iota n)) = some (b, m)) : b = p := by
  have hpm : p ∈ allOrders n (iota n) := mem_allOrders n (iota n) p (iota_length n) (perm_iota hp)
  have h1 := (bestP_min _ _ _ _ hb).1 p hpm
  obtain ⟨h2, h3⟩ := bestP_inv (allOrders n (iota n)) none (fun r => okO n r) (fun r hr => allO_ok r hr h6) (fun b m e => by cases e) b m hb
  have key : ∀ q, okO n q → dsum n V q = farG (fun _ _ => C - 1) p + (far p q + far p q) := fun q hq => by
    have hpq : q.Perm p := (perm_iota hq).trans (perm_iota hp).symm
    rw [← dsum_farG hV hq, far_farG, ← farG_add, farG_const p q hpq.length_eq.symm, ← farG_add]
    refine farG_congr q hq.2.1 fun x hx y hy hne => ?_
    rw [hc x (hpq.subset hx) y (hpq.subset hy) hne]
    split <;> omega
  rw [h3, key b h2, key p hp, far_btw hp hp, btw_self] at h1
  have hz : far p b = 0 := by omega
  have hz2 : far p p = 0 := by rw [far_btw hp hp, btw_self]
  rw [far_farG] at hz hz2
  have hbp : b.Perm p := (perm_iota h2).trans (perm_iota hp).symm
  refine List.Perm.eq_of_pairwise (le := fun x y => ix p x ≤ ix p y) (fun x y hx hy e1 e2 => ?_) (farG_zero_pw b hz) (farG_zero_pw p hz2) hbp
  obtain ⟨i, hi, ei, exi⟩ := ix_at (hbp.subset hx)
  obtain ⟨j, hj, ej, exj⟩ := ix_at hy
  have : i = j := by omega
  subst this
  rw [← exi, ← exj]
end Go.Proofs.Ytohgcgedbhlnfaa
