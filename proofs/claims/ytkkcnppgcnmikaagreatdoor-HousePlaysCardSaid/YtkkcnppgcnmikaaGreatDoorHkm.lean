/- Accounts: the reference's Take. -/
import Derived.Test.YtkkcnppgcnmikaaGreatDoorHjm
namespace Go.Proofs.YtkkcnppgcnmikaaGreatDoor
open Go FM Go.Proofs
set_option maxRecDepth 10000
set_option maxHeartbeats 3200000
set_option linter.all false
def mid (l : List Ac) (d : Dl) (w : Str) (k : Nat) : List Ac := (l.take k).map (fun a => if3 d w (if2 d (if1 d a))) ++ l.drop k
theorem mid_len {l : List Ac} {d : Dl} {w : Str} {k : Nat} (hk : k ≤ l.length) : (mid l d w k).length = l.length := by
  unfold mid; rw [List.length_append, List.length_map, List.length_take, List.length_drop]; omega
theorem mid_get {l : List Ac} {d : Dl} {w : Str} {k : Nat} (hk : k < l.length) : (mid l d w k)[k]? = some l[k] := by
  unfold mid
  rw [List.getElem?_append_right (by rw [List.length_map, List.length_take]; omega), List.length_map, List.length_take, List.getElem?_drop, List.getElem?_eq_getElem (by omega)]
  congr 2; omega
theorem mid_succ {l : List Ac} {d : Dl} {w : Str} {k : Nat} (hk : k < l.length) : mid l d w (k + 1) = (mid l d w k).set k (if3 d w (if2 d (if1 d l[k]))) := by
  unfold mid
  rw [List.take_succ_eq_append_getElem hk, List.map_append, List.append_assoc, List.drop_eq_getElem_cons hk, List.set_append_right _ _ (by rw [List.length_map, List.length_take]; omega), List.length_map, List.length_take, show k - min k l.length = 0 by omega]
  rfl
theorem mid_end {l : List Ac} {d : Dl} {w : Str} : mid l d w l.length = tkM l d w := by
  unfold mid tkM; rw [List.take_length, List.drop_length, List.append_nil]
theorem set_same {α : Type} {X : List α} {k : Nat} {a : α} (h : X[k]? = some a) : X.set k a = X := by
  refine List.ext_getElem? fun i => ?_
  rw [List.getElem?_set]
  by_cases e : k = i
  · subst e; rw [if_pos rfl, if_pos (List.getElem?_eq_some_iff.1 h).1, h]
  · rw [if_neg e]
theorem gs1 {α : Type} {X : List α} {k : Nat} {x : α} (h : k < X.length) : (X.set k x)[k]? = some x := List.getElem?_set_self h
theorem gs2 {α : Type} {X : List α} {k : Nat} {x y : α} (h : k < X.length) : ((X.set k y).set k x)[k]? = some x := gs1 (by rw [List.length_set]; exact h)
theorem gs3 {α : Type} {X : List α} {k : Nat} {x y z : α} (h : k < X.length) : (((X.set k z).set k y).set k x)[k]? = some x := gs2 (by rw [List.length_set]; exact h)
theorem gs4 {α : Type} {X : List α} {k : Nat} {x y z u : α} (h : k < X.length) : ((((X.set k u).set k z).set k y).set k x)[k]? = some x := gs3 (by rw [List.length_set]; exact h)
theorem takeOf_spec (l : List Ac) (d : Dl) (w : Str) (hL : AcL l) (h1 : d.1.length ≤ 9223372036854775807) (h2 : d.2.1.length ≤ 9223372036854775807) : FnSpec Sy.P 89 [.sl false 3 (l.map acA), dlA d, .str w] [.sl false 3 (l.map acA), dlA d, .str w] (resA (tkM l d w) (tkE l d w)) := by
  have hC := accErr_spec l hL
  have hR := dealErr_spec d h1 h2
  have hCr := acE_range l
  have hRr := dlE_range d
  unfold tkE resA
  by_cases c1 : acE l = 0
  · have hok := acE_ok c1
    rw [c1] at hC
    rw [if_neg (not_not_intro c1)]
    by_cases c2 : dlE d = 0
    · have hdk := dlE_ok c2
      rw [c2] at hR
      rw [if_neg (not_not_intro c2)]
      have hl6 := hok.len
      have k1 := hdk.num; have k2 := hdk.much; have k3 := hdk.fee
      refine FnSpec.enter (S := Sy) 0 Tryz.func89 rfl rfl rfl Tryz.ntmps89 rfl rfl rfl rfl fun v0 => ?_
      (repeat' (first | refine w9x ?_ | refine w9p (hC) ?_ | refine w9p (hR) ?_ | (refine w9c ?_ ?_ <;> intro _ <;> try exact w9o) | (refine w9d ?_ ?_ <;> intro _ <;> try exact w9s) | (refine w9q ?_; intro bnil hbnil)))
      all_goals first | (exfalso; omega) | (exfalso; contradiction) | skip
      refine CW.loop (fun k : Nat => [(0, .av (.sl false 3 (l.map acA))), (2, .av (.str w)), (4, .av (.pt true [.str d.1, .str d.2.1, .int d.2.2.1, .int d.2.2.2.1, .int d.2.2.2.2.1, .int d.2.2.2.2.2.1])), (28, .av (.sl true 1 ([d.1, d.2.1, w].map AV.str))), (29, .av (.int (3))), (30, .av (.int (k)))]) (fun k => k ≤ 3 ∧ ∀ (j : Nat) s, j < k → [d.1, d.2.1, w][j]? = some s → 0 ≤ fA l s) (fun k => 3 - k) (0) ?_ (by exact w9a) ?_
      · exact ⟨Nat.zero_le _, fun j s hj => absurd hj (Nat.not_lt_zero _)⟩
      intro k ⟨hk, hall⟩
      by_cases hlt : k < 3
      · have hx : [d.1, d.2.1, w][k]? = some ([d.1, d.2.1, w][k]'hlt) := List.getElem?_eq_getElem hlt
        have hm : [d.1, d.2.1, w][k]'hlt ∈ [d.1, d.2.1, w] := List.getElem_mem _
        generalize [d.1, d.2.1, w][k]'hlt = s at hx hm
        have hF := accOf_spec l s hL.len
        have hr := fA_range l s
        by_cases hn : fA l s < 0
        · have c3 : fA l d.1 < 0 ∨ fA l d.2.1 < 0 ∨ fA l w < 0 := by
            simp only [List.mem_cons, List.mem_nil_iff, or_false] at hm
            rcases hm with rfl | rfl | rfl
            · exact .inl hn
            · exact .inr (.inl hn)
            · exact .inr (.inr hn)
          rw [if_pos c3, if_neg (by decide)]
          (repeat' (first | refine w9x ?_ | refine w9p (hF) ?_ | (refine w9c ?_ ?_ <;> intro _ <;> try exact w9o) | (refine w9d ?_ ?_ <;> intro _ <;> try exact w9s) | (refine w9q ?_; intro bnil hbnil)))
          all_goals first | (exfalso; omega) | exact .mk rfl rfl rfl
        · (repeat' (first | refine w9x ?_ | refine w9p (hF) ?_ | (refine w9c ?_ ?_ <;> intro _ <;> try exact w9o) | (refine w9d ?_ ?_ <;> intro _ <;> try exact w9s) | (refine w9q ?_; intro bnil hbnil)))
          all_goals first | (exfalso; omega) | skip
          refine ⟨k+1, ?_, by first | omega | (simp only; omega), by exact w9a⟩
          refine ⟨by omega, fun j s' hj hs => ?_⟩
          by_cases hjk : j = k
          · subst hjk
            rw [hx] at hs; cases hs; omega
          · exact hall j s' (by omega) hs
      obtain rfl : k = 3 := by omega
      have a1 := hall 0 d.1 (by omega) rfl
      have a2 := hall 1 d.2.1 (by omega) rfl
      have a3 := hall 2 w (by omega) rfl
      have c3 : ¬ (fA l d.1 < 0 ∨ fA l d.2.1 < 0 ∨ fA l w < 0) := by omega
      rw [if_neg c3]
      have hF1 := accOf_spec l d.1 hL.len
      obtain ⟨i, hi, e1, n1⟩ := fA_at (l := l) (s := d.1) (by omega)
      have ga : l[i]? = some l[i] := List.getElem?_eq_getElem hi
      rw [e1] at hF1 ⊢
      rw [Int.toNat_natCast, getD_at ga]
      have m1 := hok.mo _ (List.getElem_mem hi)
      have m2 := hok.nu _ (List.getElem_mem hi)
      generalize l[i] = a at ga n1 m1 m2 ⊢
      by_cases c4 : d.2.2.1 ≠ a.2.2.1
      · rw [if_pos c4, if_neg (by decide)]
        (repeat' (first | refine w9x ?_ | refine w9p (hF1) ?_ | (refine w9c ?_ ?_ <;> intro _ <;> try exact w9o) | (refine w9d ?_ ?_ <;> intro _ <;> try exact w9s) | (refine w9q ?_; intro bnil hbnil)))
        all_goals first | (exfalso; omega) | exact .mk rfl rfl rfl
      rw [if_neg c4]
      by_cases c5 : a.2.1 < d.2.2.2.1 + d.2.2.2.2.1
      · rw [if_pos c5, if_neg (by decide)]
        (repeat' (first | refine w9x ?_ | refine w9p (hF1) ?_ | (refine w9c ?_ ?_ <;> intro _ <;> try exact w9o) | (refine w9d ?_ ?_ <;> intro _ <;> try exact w9s) | (refine w9q ?_; intro bnil hbnil)))
        all_goals first | (exfalso; omega) | exact .mk rfl rfl rfl
      rw [if_neg c5]
      have hCl := cloneAc_spec l (by omega)
      (repeat' (first | refine w9x ?_ | refine w9p (hF1) ?_ | refine w9p (hCl) ?_ | (refine w9c ?_ ?_ <;> intro _ <;> try exact w9o) | (refine w9d ?_ ?_ <;> intro _ <;> try exact w9s) | (refine w9q ?_; intro bnil hbnil)))
      all_goals first | (exfalso; omega) | skip
      refine CW.loop (fun k : Nat => [(2, .av (.str w)), (4, .av (.pt true [.str d.1, .str d.2.1, .int d.2.2.1, .int d.2.2.2.1, .int d.2.2.2.2.1, .int d.2.2.2.2.2.1])), (12, .av (.sl true 3 ((mid l d w k).map acA))), (64, .av (.int (l.length))), (65, .av (.int (k)))]) (fun k => k ≤ l.length) (fun k => l.length - k) (0) ?_ (by exact w9a) ?_
      · exact Nat.zero_le _
      intro k hk
      by_cases hlt : k < l.length
      · have hX := mid_get (d := d) (w := w) hlt
        have hS := mid_succ (d := d) (w := w) hlt
        have hXl := mid_len (d := d) (w := w) hk
        have hXk : k < (mid l d w k).length := by rw [hXl]; exact hlt
        have m3 := hok.mo _ (List.getElem_mem hlt)
        have m4 := hok.nu _ (List.getElem_mem hlt)
        generalize l[k] = b at hX hS m3 m4
        generalize mid l d w k = X at hX hS hXl hXk ⊢
        have g1 : (X.set k (b.1, b.2.1, b.2.2.1 + 1, ()))[k]? = some (b.1, b.2.1, b.2.2.1 + 1, ()) := gs1 hXk
        have g2 : ((X.set k (b.1, b.2.1, b.2.2.1 + 1, ())).set k (b.1, b.2.1 - (d.2.2.2.1 + d.2.2.2.2.1), b.2.2.1 + 1, ()))[k]? = some (b.1, b.2.1 - (d.2.2.2.1 + d.2.2.2.2.1), b.2.2.1 + 1, ()) := gs2 hXk
        have g3 : (((X.set k (b.1, b.2.1, b.2.2.1 + 1, ())).set k (b.1, b.2.1 - (d.2.2.2.1 + d.2.2.2.2.1), b.2.2.1 + 1, ())).set k (b.1, b.2.1 - (d.2.2.2.1 + d.2.2.2.2.1) + d.2.2.2.1, b.2.2.1 + 1, ()))[k]? = some (b.1, b.2.1 - (d.2.2.2.1 + d.2.2.2.2.1) + d.2.2.2.1, b.2.2.1 + 1, ()) := gs3 hXk
        have g4 : (X.set k (b.1, b.2.1 + d.2.2.2.1, b.2.2.1, ()))[k]? = some (b.1, b.2.1 + d.2.2.2.1, b.2.2.1, ()) := gs1 hXk
        (repeat' (first | ((with_reducible apply J.eff); rfl; (exact e_stMo rfl rfl (by assumption) rfl rfl rfl)) | ((with_reducible apply J.eff); rfl; (exact e_stNu rfl rfl (by assumption) rfl rfl rfl)) | refine w9x ?_ | (refine w9c ?_ ?_ <;> intro _ <;> try exact w9o) | (refine w9d ?_ ?_ <;> intro _ <;> try exact w9s) | (refine w9q ?_; intro bnil hbnil)))
        all_goals first | (exfalso; omega) | (exfalso; contradiction) | skip
        all_goals by_cases b1 : b.1 = d.1
        all_goals by_cases b2 : b.1 = d.2.1
        all_goals by_cases b3 : b.1 = w
        all_goals first | (exfalso; contradiction) | skip
        all_goals first | have q1 := eq_false b1 | have q1 := eq_true b1
        all_goals first | have q2 := eq_false b2 | have q2 := eq_true b2
        all_goals first | have q3 := eq_false b3 | have q3 := eq_true b3
        all_goals (
          refine ⟨k+1, ?_, by first | omega | (simp only; omega), by (repeat' (first | exact trivial | rfl | refine And.intro ?_ ?_ | exact int_congr (by omega) | exact int_congr (by dsimp only; omega) | exact ints_congr (by first | assumption | exact Eq.symm (by assumption)) | exact int_congr (by assumption) | exact bool_congr (by first | assumption | exact Eq.symm (by assumption)) | exact map_congr' (by first | assumption | exact Eq.symm (by assumption)) | (refine map_congr' ?_; rw [hS]; simp only [Int.toNat_natCast, List.set_set, if1, if2, if3, pay1, pay2, pay3, q1, q2, q3, if_true, if_false, ite_true, ite_false]; try exact (set_same hX).symm)))⟩)
        all_goals omega
      · obtain rfl : k = l.length := by omega
        rw [mid_end]
        have hC2 := accErr_spec (tkM l d w) (tkM_L hL)
        have hC2r := acE_range (tkM l d w)
        by_cases c6 : acE (tkM l d w) ≠ 0
        · rw [if_pos c6, if_neg (by decide)]
          generalize acE (tkM l d w) = e6 at *
          (repeat' (first | refine w9x ?_ | refine w9p (hC2) ?_ | (refine w9c ?_ ?_ <;> intro _ <;> try exact w9o) | (refine w9d ?_ ?_ <;> intro _ <;> try exact w9s) | (refine w9q ?_; intro bnil hbnil)))
          all_goals first | (exfalso; omega) | exact .mk rfl rfl rfl
        · rw [if_neg c6, if_pos rfl]
          rw [Classical.not_not.1 c6] at hC2
          (repeat' (first | refine w9x ?_ | refine w9p (hC2) ?_ | (refine w9c ?_ ?_ <;> intro _ <;> try exact w9o) | (refine w9d ?_ ?_ <;> intro _ <;> try exact w9s) | (refine w9q ?_; intro bnil hbnil)))
          all_goals first | (exfalso; omega) | exact .mk rfl rfl rfl
    · rw [if_pos c2, if_neg c2]
      generalize dlE d = e at *
      refine FnSpec.enter (S := Sy) 0 Tryz.func89 rfl rfl rfl Tryz.ntmps89 rfl rfl rfl rfl fun v0 => ?_
      (repeat' (first | refine w9x ?_ | refine w9p (hC) ?_ | refine w9p (hR) ?_ | (refine w9c ?_ ?_ <;> intro _ <;> try exact w9o) | (refine w9d ?_ ?_ <;> intro _ <;> try exact w9s) | (refine w9q ?_; intro bnil hbnil)))
      all_goals first | (exfalso; omega) | exact .mk rfl rfl rfl
  · rw [if_pos c1, if_neg c1]
    generalize acE l = e at *
    refine FnSpec.enter (S := Sy) 0 Tryz.func89 rfl rfl rfl Tryz.ntmps89 rfl rfl rfl rfl fun v0 => ?_
    (repeat' (first | refine w9x ?_ | refine w9p (hC) ?_ | refine w9p (hR) ?_ | (refine w9c ?_ ?_ <;> intro _ <;> try exact w9o) | (refine w9d ?_ ?_ <;> intro _ <;> try exact w9s) | (refine w9q ?_; intro bnil hbnil)))
    all_goals first | (exfalso; omega) | exact .mk rfl rfl rfl
end Go.Proofs.YtkkcnppgcnmikaaGreatDoor
