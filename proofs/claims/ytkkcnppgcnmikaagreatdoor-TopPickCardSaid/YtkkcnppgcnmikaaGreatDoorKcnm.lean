/- Packing: what is right, and who says so. -/
import Derived.Test.YtkkcnppgcnmikaaGreatDoorTfnm
import Derived.Test.YtkkcnppgcnmikaaGreatDoorSlnm
import Derived.Test.YtkkcnppgcnmikaaGreatDoorStnm
namespace Go.Proofs.YtkkcnppgcnmikaaGreatDoor
open Go FM
set_option maxRecDepth 10000
set_option maxHeartbeats 1600000
set_option linter.all false
abbrev its (l : List It) : AV := .sl false 2 (l.map it)
def itE (l : List It) (r : Int) : Int := if 12 < l.length then 2 else if l.any bad = true then 1 else if r < 0 ∨ 1000 < r then 1 else 0
theorem anyS_take {α : Type} (p : α → Bool) (l : List α) (k : Nat) (h : k < l.length) : (l.take (k+1)).any p = ((l.take k).any p || p l[k]) := by
  rw [List.take_succ_eq_append_getElem h, List.any_append]; simp
theorem anyS_get {α : Type} {p : α → Bool} {l : List α} {k : Nat} (h : k < l.length) (hp : p l[k] = true) : l.any p = true := List.any_eq_true.2 ⟨l[k], List.getElem_mem h, hp⟩
theorem knapCheck_spec (l : List It) (r : Int) (hl : l.length ≤ 9223372036854775807) : FnSpec Sy.P 57 [its l, .int r] [its l, .int r] (.int (itE l r)) := by
  unfold itE
  refine FnSpec.enter (S := Sy) 0 Tryz.func57 rfl rfl rfl Tryz.ntmps57 rfl rfl rfl rfl fun v0 => ?_
  by_cases h1 : 12 < l.length
  · rw [if_pos h1]
    (repeat' (first | refine w9x ?_ | (refine w9c ?_ ?_ <;> intro _ <;> try exact w9o) | (refine w9d ?_ ?_ <;> intro _ <;> try exact w9s) | (refine w9q ?_; intro bnil hbnil)))
    all_goals first | (exfalso; omega) | exact .mk rfl rfl rfl
  rw [if_neg h1]
  (repeat' (first | refine w9x ?_ | (refine w9c ?_ ?_ <;> intro _ <;> try exact w9o) | (refine w9d ?_ ?_ <;> intro _ <;> try exact w9s) | (refine w9q ?_; intro bnil hbnil)))
  refine CW.loop (fun k : Nat => [(1, .av (.int (r))), (10, .av (its l)), (11, .av (.int (l.length))), (12, .av (.int (k)))]) (fun k => k ≤ l.length ∧ (l.take k).any bad = false) (fun k => l.length - k) (0) ?_ (by exact w9a) ?_
  · exact ⟨Nat.zero_le _, rfl⟩
  intro k ⟨hk, hp⟩
  by_cases hlt : k < l.length
  · have hx : l[k]? = some l[k] := List.getElem?_eq_getElem hlt
    have ht := anyS_take bad l k hlt
    have hgt := anyS_get (p := bad) hlt
    rw [hp, Bool.false_or] at ht
    generalize l[k] = x at *
    obtain ⟨w, v, ⟨⟩⟩ := x
    have hbd : bad (w, v, ()) = decide (w < 1 ∨ 100 < w ∨ v < 0 ∨ 1000000 < v) := rfl
    rw [hbd] at ht hgt
    by_cases c : w < 1 ∨ 100 < w ∨ v < 0 ∨ 1000000 < v
    · rw [if_pos (hgt (decide_eq_true c))]
      (repeat' (first | refine w9x ?_ | (refine w9c ?_ ?_ <;> intro _ <;> try exact w9o) | (refine w9d ?_ ?_ <;> intro _ <;> try exact w9s) | (refine w9q ?_; intro bnil hbnil)))
      all_goals first | (exfalso; omega) | exact .mk rfl rfl rfl
    · rw [decide_eq_false c] at ht
      (repeat' (first | refine w9x ?_ | (refine w9c ?_ ?_ <;> intro _ <;> try exact w9o) | (refine w9d ?_ ?_ <;> intro _ <;> try exact w9s) | (refine w9q ?_; intro bnil hbnil)))
      all_goals first | (exfalso; omega) | skip
      refine ⟨k+1, ?_, by first | omega | (simp only; omega), by exact w9a⟩
      exact ⟨by omega, ht⟩
  · obtain rfl : k = l.length := by omega
    rw [List.take_length] at hp
    rw [hp, if_neg Bool.false_ne_true]
    by_cases c : r < 0 ∨ 1000 < r
    · rw [if_pos c]
      (repeat' (first | refine w9x ?_ | (refine w9c ?_ ?_ <;> intro _ <;> try exact w9o) | (refine w9d ?_ ?_ <;> intro _ <;> try exact w9s) | (refine w9q ?_; intro bnil hbnil)))
      all_goals first | (exfalso; omega) | exact .mk rfl rfl rfl
    · rw [if_neg c]
      (repeat' (first | refine w9x ?_ | (refine w9c ?_ ?_ <;> intro _ <;> try exact w9o) | (refine w9d ?_ ?_ <;> intro _ <;> try exact w9s) | (refine w9q ?_; intro bnil hbnil)))
      all_goals first | (exfalso; omega) | exact .mk rfl rfl rfl
end Go.Proofs.YtkkcnppgcnmikaaGreatDoor

/- Packing greedily, walked. -/
namespace Go.Proofs.YtkkcnppgcnmikaaGreatDoor
open Go FM
set_option maxRecDepth 10000
set_option maxHeartbeats 3200000
set_option linter.all false
def wA (l : List It) (i : Nat) : Int := (l.getD i (1, 0, ())).1
def vA (l : List It) (i : Nat) : Int := (l.getD i (1, 0, ())).2.1
theorem wA_get {l : List It} {i : Nat} (h : i < l.length) : wA l i = l[i].1 ∧ vA l i = l[i].2.1 := by
  unfold wA vA; rw [List.getD_eq_getElem?_getD, List.getElem?_eq_getElem h]; exact ⟨rfl, rfl⟩
theorem IOk.ab {l : List It} (h : IOk l) (i : Nat) : 1 ≤ wA l i ∧ wA l i ≤ 100 ∧ 0 ≤ vA l i ∧ vA l i ≤ 1000000 := by
  by_cases hi : i < l.length
  · rw [(wA_get hi).1, (wA_get hi).2]; exact h.ok _ (List.getElem_mem hi)
  · unfold wA vA; rw [List.getD_eq_getElem?_getD, List.getElem?_eq_none (by omega)]; simp
def eA (l : List It) (o : Nat → Bool) (r : Int) (i : Nat) : Bool := !(o i) && decide (wA l i ≤ r)
def gB (l : List It) (o : Nat → Bool) (r : Int) (k : Nat) : Int := fb (eA l o r) (wA l) (vA l) k
def hB (l : List It) (o : Nat → Bool) (r : Int) (k : Nat) : Int := bb (eA l o r) (wA l) (vA l) l.length k
def gF (l : List It) : Nat → (Nat → Bool) → Int → Int → (Nat → Bool) × Int
  | 0, o, _, s => (o, s)
  | f + 1, o, r, s => if gB l o r l.length < 0 then (o, s) else gF l f (setO o (gB l o r l.length).toNat) (r - wA l (gB l o r l.length).toNat) (s + vA l (gB l o r l.length).toNat)
theorem gB_range {l : List It} {o : Nat → Bool} {r : Int} (k : Nat) : gB l o r k = -1 ∨ ∃ j : Nat, gB l o r k = j ∧ j < k ∧ o j = false ∧ wA l j ≤ r := by
  rcases fb_range (e := eA l o r) (w := wA l) (v := vA l) k with h | ⟨j, h1, h2, h3⟩
  · exact .inl h
  · unfold eA at h3
    simp only [Bool.and_eq_true, Bool.not_eq_true', decide_eq_true_eq] at h3
    exact .inr ⟨j, h1, h2, h3.1, h3.2⟩
theorem gB_succ {l : List It} {o : Nat → Bool} {r : Int} {k : Nat} (h : k < l.length) : gB l o r (k + 1) = if (o k = false ∧ l[k].1 ≤ r) ∧ (gB l o r k < 0 ∨ vA l (gB l o r k).toNat * l[k].1 < l[k].2.1 * wA l (gB l o r k).toNat) then (k : Int) else gB l o r k := by
  have h1 := wA_get h
  show (if eA l o r k = true ∧ (gB l o r k < 0 ∨ vA l (gB l o r k).toNat * wA l k < vA l k * wA l (gB l o r k).toNat) then (k : Int) else gB l o r k) = _
  unfold eA
  rw [h1.1, h1.2]
  simp only [Bool.and_eq_true, Bool.not_eq_true', decide_eq_true_eq]
theorem mul_in {a b : Int} (h1 : 0 ≤ a ∧ a ≤ 1000000) (h2 : 0 ≤ b ∧ b ≤ 1000) : FM.InR (a * b) := by
  have e1 := Int.mul_nonneg h1.1 h2.1
  have e2 : a * b ≤ 1000000 * 1000 := Int.le_trans (Int.mul_le_mul_of_nonneg_right h1.2 h2.1) (Int.mul_le_mul_of_nonneg_left h2.2 (by decide))
  exact InR.mk (by omega)
def tk (n : Nat) (o : Nat → Bool) : List Int := tb n fun i => if o i = true then 1 else 0
theorem tk_start (n : Nat) : List.replicate n (0 : Int) = tk n fun _ => false := by rw [tb_replicate]; rfl
theorem tk_get {n i : Nat} {o : Nat → Bool} (h : i < n) : (tk n o)[i]? = some (if o i = true then 1 else 0) := tb_get h
theorem tk_set {n i : Nat} {o : Nat → Bool} : (tk n o).set i 1 = tk n (setO o i) := by
  unfold tk
  rw [tb_set]
  refine tb_congr fun a _ => ?_
  unfold setO
  by_cases e : a = i
  · rw [if_pos e, if_pos e]; rfl
  · rw [if_neg e, if_neg e]
theorem knapGreedy_spec (l : List It) (R : Int) (h : IOk l) (hR : 0 ≤ R ∧ R ≤ 1000) (he : itE l R = 0) : FnSpec Sy.P 20 [its l, .int R] [its l, .int R] (.tup [.sl true 1 ((fl l.length (gF l (l.length + 1) (fun _ => false) R 0).1).map .int), .int (gF l (l.length + 1) (fun _ => false) R 0).2, .int 0]) := by
  have hlen := h.len
  have hC := knapCheck_spec l R (by omega)
  rw [he] at hC
  have hfl0 : (fl l.length (notO fun _ => false)).length = l.length := by
    rw [show fl l.length (notO fun _ => false) = fl l.length fun _ => true from fl_congr fun _ _ => rfl, fl_true]; simp
  refine FnSpec.enter (S := Sy) 0 Tryz.func20 rfl rfl rfl Tryz.ntmps20 rfl rfl rfl rfl fun v0 => ?_
  (repeat' (first | refine w9x ?_ | refine w9p (hC) ?_ | (refine w9c ?_ ?_ <;> intro _ <;> try exact w9o) | (refine w9d ?_ ?_ <;> intro _ <;> try exact w9s) | (refine w9q ?_; intro bnil hbnil)))
  all_goals first | (exfalso; omega) | skip
  refine CW.loop (fun z : Nat × (Nat → Bool) × Int × Int => [(0, .av (its l)), (1, .av (.int (z.2.2.1))), (8, .av (.sl true 1 ((tk l.length z.2.1).map .int))), (9, .av (.int (z.2.2.2)))]) (fun z => z.1 = (fl l.length (notO z.2.1)).length + 1 ∧ gF l z.1 z.2.1 z.2.2.1 z.2.2.2 = gF l (l.length + 1) (fun _ => false) R 0 ∧ 0 ≤ z.2.2.1 ∧ z.2.2.1 ≤ 1000 ∧ 0 ≤ z.2.2.2 ∧ z.2.2.2 ≤ 1000000 * (13 - (z.1 : Int)) ∧ z.1 ≤ 13) (fun z => z.1) ((l.length + 1, (fun _ => false), R, 0)) ?_ (by (repeat' (first | exact trivial | rfl | refine And.intro ?_ ?_ | exact int_congr (by omega) | exact int_congr (by dsimp only; omega) | exact ints_congr (by first | assumption | exact Eq.symm (by assumption)) | exact int_congr (by assumption) | exact bool_congr (by first | assumption | exact Eq.symm (by assumption)) | exact map_congr' (by first | assumption | exact Eq.symm (by assumption)) | exact ints_congr (by rw [show ((l.length : Nat) : Int).toNat = l.length by omega]; exact tk_start _)))) ?_
  · exact ⟨by rw [hfl0], rfl, hR.1, hR.2, Int.le_refl _, by simp only; omega, by simp only; omega⟩
  intro ⟨f, o, r, s⟩ ⟨hf, hg, hr0, hr1, hs0, hs1, hf13⟩
  dsimp only at hf hg hr0 hr1 hs0 hs1 hf13 ⊢
  have htl : (tk l.length o).length = l.length := tb_length
  (repeat' (first | refine w9x ?_ | (refine w9c ?_ ?_ <;> intro _ <;> try exact w9o) | (refine w9d ?_ ?_ <;> intro _ <;> try exact w9s) | (refine w9q ?_; intro bnil hbnil)))
  refine CW.loop (fun i : Nat => [(0, .av (its l)), (1, .av (.int (r))), (8, .av (.sl true 1 ((tk l.length o).map .int))), (9, .av (.int (s))), (10, .av (.int (gB l o r i))), (24, .av (its l)), (25, .av (.int (l.length))), (26, .av (.int (i)))]) (fun i => i ≤ l.length) (fun i => l.length - i) (0) ?_ (by exact w9a) ?_
  · exact Nat.zero_le _
  intro i hi
  by_cases hlt : i < l.length
  · have hx : l[i]? = some l[i] := List.getElem?_eq_getElem hlt
    have hok := h.ok _ (List.getElem_mem hlt)
    have hsu := gB_succ (o := o) (r := r) hlt
    have htk := tk_get (o := o) hlt
    rcases gB_range (l := l) (o := o) (r := r) i with hst | ⟨j, hst, hj, _, _⟩
    · rw [hst] at hsu ⊢
      generalize l[i] = x at *
      obtain ⟨w, v, ⟨⟩⟩ := x
      dsimp only at hok hsu
      cases ho : o i with
      | true =>
        rw [ho] at htk hsu
        rw [if_neg (by simp)] at hsu
        rw [if_pos rfl] at htk
        (repeat' (first | refine w9x ?_ | (refine w9c ?_ ?_ <;> intro _ <;> try exact w9o) | (refine w9d ?_ ?_ <;> intro _ <;> try exact w9s) | (refine w9q ?_; intro bnil hbnil)))
        all_goals first | (exfalso; omega) | skip
        refine ⟨i+1, ?_, by first | omega | (simp only; omega), by (repeat' (first | exact trivial | rfl | refine And.intro ?_ ?_ | exact int_congr (by omega) | exact int_congr (by dsimp only; omega) | exact ints_congr (by first | assumption | exact Eq.symm (by assumption)) | exact int_congr (by assumption) | exact bool_congr (by first | assumption | exact Eq.symm (by assumption)) | exact map_congr' (by first | assumption | exact Eq.symm (by assumption)) | (rw [hsu])))⟩
        omega
      | false =>
        rw [ho] at htk hsu
        rw [if_neg (by decide)] at htk
        by_cases hw : w ≤ r
        · rw [if_pos ⟨⟨rfl, hw⟩, .inl (by decide)⟩] at hsu
          (repeat' (first | refine w9x ?_ | (refine w9c ?_ ?_ <;> intro _ <;> try exact w9o) | (refine w9d ?_ ?_ <;> intro _ <;> try exact w9s) | (refine w9q ?_; intro bnil hbnil)))
          all_goals first | (exfalso; omega) | skip
          refine ⟨i+1, ?_, by first | omega | (simp only; omega), by (repeat' (first | exact trivial | rfl | refine And.intro ?_ ?_ | exact int_congr (by omega) | exact int_congr (by dsimp only; omega) | exact ints_congr (by first | assumption | exact Eq.symm (by assumption)) | exact int_congr (by assumption) | exact bool_congr (by first | assumption | exact Eq.symm (by assumption)) | exact map_congr' (by first | assumption | exact Eq.symm (by assumption)) | (rw [hsu])))⟩
          omega
        · rw [if_neg (fun e => hw e.1.2)] at hsu
          (repeat' (first | refine w9x ?_ | (refine w9c ?_ ?_ <;> intro _ <;> try exact w9o) | (refine w9d ?_ ?_ <;> intro _ <;> try exact w9s) | (refine w9q ?_; intro bnil hbnil)))
          all_goals first | (exfalso; omega) | skip
          refine ⟨i+1, ?_, by first | omega | (simp only; omega), by (repeat' (first | exact trivial | rfl | refine And.intro ?_ ?_ | exact int_congr (by omega) | exact int_congr (by dsimp only; omega) | exact ints_congr (by first | assumption | exact Eq.symm (by assumption)) | exact int_congr (by assumption) | exact bool_congr (by first | assumption | exact Eq.symm (by assumption)) | exact map_congr' (by first | assumption | exact Eq.symm (by assumption)) | (rw [hsu])))⟩
          omega
    · have hxj : l[j]? = some (l[j]'(by omega)) := List.getElem?_eq_getElem (by omega)
      have hab := h.ab j
      have hwj := wA_get (l := l) (i := j) (by omega)
      rw [hst] at hsu ⊢
      rw [Int.toNat_natCast] at hsu
      generalize hlj : l[j]'(by omega) = y at *
      generalize l[i] = x at *
      obtain ⟨w, v, ⟨⟩⟩ := x
      obtain ⟨wj, vj, ⟨⟩⟩ := y
      dsimp only at hok hsu hwj
      rw [hwj.1, hwj.2] at hsu hab
      have m1 : FM.InR (v * wj) := mul_in ⟨by omega, by omega⟩ ⟨by omega, by omega⟩
      have m2 : FM.InR (vj * w) := mul_in ⟨by omega, by omega⟩ ⟨by omega, by omega⟩
      cases ho : o i with
      | true =>
        rw [ho] at htk hsu
        rw [if_neg (by simp)] at hsu
        rw [if_pos rfl] at htk
        (repeat' (first | refine w9x ?_ | (refine w9c ?_ ?_ <;> intro _ <;> try exact w9o) | (refine w9d ?_ ?_ <;> intro _ <;> try exact w9s) | (refine w9q ?_; intro bnil hbnil)))
        all_goals first | (exfalso; omega) | skip
        refine ⟨i+1, ?_, by first | omega | (simp only; omega), by (repeat' (first | exact trivial | rfl | refine And.intro ?_ ?_ | exact int_congr (by omega) | exact int_congr (by dsimp only; omega) | exact ints_congr (by first | assumption | exact Eq.symm (by assumption)) | exact int_congr (by assumption) | exact bool_congr (by first | assumption | exact Eq.symm (by assumption)) | exact map_congr' (by first | assumption | exact Eq.symm (by assumption)) | (rw [hsu])))⟩
        omega
      | false =>
        rw [ho] at htk hsu
        rw [if_neg (by decide)] at htk
        by_cases hw : w ≤ r
        · by_cases hc : vj * w < v * wj
          · rw [if_pos ⟨⟨rfl, hw⟩, .inr hc⟩] at hsu
            (repeat' (first | refine w9x ?_ | (refine w9c ?_ ?_ <;> intro _ <;> try exact w9o) | (refine w9d ?_ ?_ <;> intro _ <;> try exact w9s) | (refine w9q ?_; intro bnil hbnil)))
            all_goals first | (exfalso; omega) | skip
            refine ⟨i+1, ?_, by first | omega | (simp only; omega), by (repeat' (first | exact trivial | rfl | refine And.intro ?_ ?_ | exact int_congr (by omega) | exact int_congr (by dsimp only; omega) | exact ints_congr (by first | assumption | exact Eq.symm (by assumption)) | exact int_congr (by assumption) | exact bool_congr (by first | assumption | exact Eq.symm (by assumption)) | exact map_congr' (by first | assumption | exact Eq.symm (by assumption)) | (rw [hsu])))⟩
            omega
          · rw [if_neg (fun e => by rcases e.2 with e | e; omega; exact hc e)] at hsu
            (repeat' (first | refine w9x ?_ | (refine w9c ?_ ?_ <;> intro _ <;> try exact w9o) | (refine w9d ?_ ?_ <;> intro _ <;> try exact w9s) | (refine w9q ?_; intro bnil hbnil)))
            all_goals first | (exfalso; omega) | skip
            refine ⟨i+1, ?_, by first | omega | (simp only; omega), by (repeat' (first | exact trivial | rfl | refine And.intro ?_ ?_ | exact int_congr (by omega) | exact int_congr (by dsimp only; omega) | exact ints_congr (by first | assumption | exact Eq.symm (by assumption)) | exact int_congr (by assumption) | exact bool_congr (by first | assumption | exact Eq.symm (by assumption)) | exact map_congr' (by first | assumption | exact Eq.symm (by assumption)) | (rw [hsu])))⟩
            omega
        · rw [if_neg (fun e => hw e.1.2)] at hsu
          (repeat' (first | refine w9x ?_ | (refine w9c ?_ ?_ <;> intro _ <;> try exact w9o) | (refine w9d ?_ ?_ <;> intro _ <;> try exact w9s) | (refine w9q ?_; intro bnil hbnil)))
          all_goals first | (exfalso; omega) | skip
          refine ⟨i+1, ?_, by first | omega | (simp only; omega), by (repeat' (first | exact trivial | rfl | refine And.intro ?_ ?_ | exact int_congr (by omega) | exact int_congr (by dsimp only; omega) | exact ints_congr (by first | assumption | exact Eq.symm (by assumption)) | exact int_congr (by assumption) | exact bool_congr (by first | assumption | exact Eq.symm (by assumption)) | exact map_congr' (by first | assumption | exact Eq.symm (by assumption)) | (rw [hsu])))⟩
          omega
  · obtain rfl : i = l.length := by omega
    obtain ⟨f', rfl⟩ : ∃ f', f = f' + 1 := ⟨f - 1, by omega⟩
    have hgu : gF l (f' + 1) o r s = if gB l o r l.length < 0 then (o, s) else gF l f' (setO o (gB l o r l.length).toNat) (r - wA l (gB l o r l.length).toNat) (s + vA l (gB l o r l.length).toNat) := rfl
    rw [hgu] at hg
    rcases gB_range (l := l) (o := o) (r := r) l.length with hst | ⟨j, hst, hj, hoj, hwr⟩
    · rw [hst] at hg ⊢
      rw [if_pos (by decide)] at hg
      rw [← hg]
      (repeat' (first | refine w9x ?_ | (refine w9c ?_ ?_ <;> intro _ <;> try exact w9o) | (refine w9d ?_ ?_ <;> intro _ <;> try exact w9s) | (refine w9q ?_; intro bnil hbnil)))
      all_goals first | (exfalso; omega) | skip
      refine CW.own 13 1 rfl ?_
      refine CW.loop (fun i : Nat => [(8, .av (.sl true 1 ((tk l.length o).map .int))), (9, .av (.int (s))), (13, .av (.sl true 1 ((fl i o).map .int))), (87, .av (.int (l.length))), (88, .av (.int (i)))]) (fun i => i ≤ l.length) (fun i => l.length - i) (0) ?_ (by exact w9a) ?_
      · exact Nat.zero_le _
      intro i hi
      have hfl := fl_len (n := i) (f := o)
      by_cases hil : i < l.length
      · have htk := tk_get (o := o) hil
        cases ho : o i with
        | true =>
          rw [ho, if_pos rfl] at htk
          have e := fl_yes ho
          (repeat' (first | refine w9x ?_ | (refine w9c ?_ ?_ <;> intro _ <;> try exact w9o) | (refine w9d ?_ ?_ <;> intro _ <;> try exact w9s) | (refine w9q ?_; intro bnil hbnil)))
          all_goals first | (exfalso; omega) | skip
          refine ⟨i+1, ?_, by first | omega | (simp only; omega), by exact w9a⟩
          omega
        | false =>
          rw [ho, if_neg (by decide)] at htk
          have e := fl_no ho
          (repeat' (first | refine w9x ?_ | (refine w9c ?_ ?_ <;> intro _ <;> try exact w9o) | (refine w9d ?_ ?_ <;> intro _ <;> try exact w9s) | (refine w9q ?_; intro bnil hbnil)))
          all_goals first | (exfalso; omega) | skip
          refine ⟨i+1, ?_, by first | omega | (simp only; omega), by exact w9a⟩
          omega
      · obtain rfl : i = l.length := by omega
        (repeat' (first | refine w9x ?_ | (refine w9c ?_ ?_ <;> intro _ <;> try exact w9o) | (refine w9d ?_ ?_ <;> intro _ <;> try exact w9s) | (refine w9q ?_; intro bnil hbnil)))
        all_goals first | (exfalso; omega) | exact .mk rfl rfl rfl
    · have hxj : l[j]? = some (l[j]'(by omega)) := List.getElem?_eq_getElem (by omega)
      have hab := h.ab j
      have hwj := wA_get (l := l) (i := j) (by omega)
      rw [hst] at hg ⊢
      rw [if_neg (by omega), Int.toNat_natCast] at hg
      have htg := tk_get (o := o) hj
      have hts := tk_set (n := l.length) (i := j) (o := o)
      have hfs := fl_setO hj hoj
      generalize hlj : l[j]'(by omega) = y at *
      obtain ⟨wj, vj, ⟨⟩⟩ := y
      dsimp only at hwj
      rw [hwj.1, hwj.2] at hg hab
      rw [hwj.1] at hwr
      (repeat' (first | refine w9x ?_ | (refine w9c ?_ ?_ <;> intro _ <;> try exact w9o) | (refine w9d ?_ ?_ <;> intro _ <;> try exact w9s) | (refine w9q ?_; intro bnil hbnil)))
      all_goals first | (exfalso; omega) | skip
      refine ⟨(f', setO o j, r - wj, s + vj), ?_, by first | omega | (simp only; omega), by exact w9a⟩
      exact ⟨by simp only; omega, hg, by simp only; omega, by simp only; omega, by simp only; omega, by simp only; omega, by simp only; omega⟩
end Go.Proofs.YtkkcnppgcnmikaaGreatDoor
