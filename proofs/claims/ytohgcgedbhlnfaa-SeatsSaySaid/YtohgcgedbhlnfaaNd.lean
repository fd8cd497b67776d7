/- A stable sort of parts, walked: the insertion sort. -/
import Derived.Test.YtohgcgedbhlnfaaNc
namespace Go.Proofs.Ytohgcgedbhlnfaa
open Go FM Go.Proofs
set_option maxRecDepth 10000
set_option maxHeartbeats 3200000
set_option linter.all false
theorem seg_at {P A R : List Pt} {i : Nat} {x : Pt} (h : A[i]? = some x) : (P ++ (A ++ R))[P.length + i]? = some x := by
  have hi := (List.getElem?_eq_some_iff.1 h).1
  rw [List.getElem?_append_right (by omega), Nat.add_sub_cancel_left, List.getElem?_append_left hi]; exact h
theorem mid_at {A B : List Pt} {x : Pt} : (A ++ x :: B)[A.length]? = some x := by rw [List.getElem?_append_right (Nat.le_refl _), Nat.sub_self]; rfl
theorem swp_at {A B : List Pt} {x y : Pt} : ((A ++ y :: x :: B).set (A.length + 1) y).set A.length x = A ++ x :: y :: B := by
  rw [List.set_append_right _ _ (by omega), Nat.add_sub_cancel_left, List.set_append_right _ _ (Nat.le_refl _), Nat.sub_self]; rfl
theorem swp_at' {A B : List Pt} {x y : Pt} : ((A ++ y :: x :: B).set A.length x).set (A.length + 1) y = A ++ x :: y :: B := by
  rw [List.set_append_right _ _ (Nat.le_refl _), Nat.sub_self, List.set_append_right _ _ (by omega), Nat.add_sub_cancel_left]; rfl
theorem ins_spec (P l R : List Pt) (hl : OkP l) (hx : l.Pairwise lx) (hn : P.length + l.length + R.length ≤ 1000000) : FnSpec Sy.P 115 [ptO (P ++ (l ++ R)), .int P.length, .int ((P.length + l.length : Nat) : Int), fnP] [ptO (P ++ (srt l ++ R)), .int P.length, .int ((P.length + l.length : Nat) : Int), fnP] (.tup []) := by
  have e0 : P ++ (l ++ R) = P ++ (srt (l.take 1) ++ (l.drop 1 ++ R)) := by
    cases l with
    | nil => rfl
    | cons x l => rfl
  refine FnSpec.enter (S := Sy) 1 Try.func115 rfl rfl rfl Try.ntmps115 rfl rfl rfl rfl fun v0 => ?_
  (repeat' (first | refine w9x ?_ | (refine w9c ?_ ?_ <;> intro _ <;> try exact w9o) | (refine w9d ?_ ?_ <;> intro _ <;> try exact w9s) | (refine w9q ?_; intro bnil hbnil)))
  refine CW.loop (fun k : Nat => [(0, .av (ptO (P ++ (srt (l.take k) ++ (l.drop k ++ R))))), (1, .av (.int (P.length))), (2, .av (.int (((P.length + l.length : Nat) : Int)))), (3, .av fnP), (8, .av (.int ((P.length : Int) + k)))]) (fun k => 1 ≤ k ∧ (k ≤ l.length ∨ k = 1)) (fun k => l.length + 1 - k) (1) ?_ (by exact w9a) ?_
  · exact ⟨Nat.le_refl _, .inr rfl⟩
  intro k ⟨hk1, hk2⟩
  by_cases hlt : k < l.length
  · have hxk : l[k]? = some l[k] := List.getElem?_eq_getElem hlt
    have htk : l.take (k + 1) = l.take k ++ [l[k]] := (List.take_append_getElem hlt).symm
    have hdk : l.drop k = l[k] :: l.drop (k + 1) := List.drop_eq_getElem_cons hlt
    have hsub : (l.take (k + 1)).Sublist l := List.take_sublist ..
    have hok : OkP (l.take k ++ [l[k]]) := htk ▸ hl.sub hsub
    have hlx : ∀ y ∈ l.take k, lx y l[k] := fun y hy => by
      have := hx.sublist hsub
      rw [htk] at this
      exact (List.pairwise_append.1 this).2.2 y hy _ (List.mem_singleton.2 rfl)
    have hS := srt_sorted (hok.sub (List.sublist_append_left ..))
    have hSm : ∀ y, y ∈ srt (l.take k) ↔ y ∈ l.take k := fun y => (srt_perm _).mem_iff
    have hSl : (srt (l.take k)).length = k := by rw [srt_len, List.length_take]; omega
    have hgx : Gd l[k] := hok.g _ (List.mem_append_right _ (List.mem_singleton.2 rfl))
    have hnx : l[k] ∉ l.take k := fun h => by have := hlx _ h; unfold lx at this; omega
    have hput := fun A B h1 h2 h3 => srt_put (A := A) (B := B) hok h1 h2 h3
    rw [← htk] at hput
    rw [hdk]
    have hdl : (l.drop (k + 1)).length = l.length - (k + 1) := List.length_drop
    generalize l[k] = x at *
    have hgl : ∀ y ∈ l.take k, Gd y := fun y hy => hok.g y (List.mem_append_left _ hy)
    generalize l.take k = lk at *
    generalize hs0 : srt lk = S at *
    have e1 : P ++ (S ++ (x :: l.drop (k + 1) ++ R)) = P ++ (S ++ (x :: ([] ++ (l.drop (k + 1) ++ R)))) := rfl
    (repeat' (first | refine w9x ?_ | (refine w9c ?_ ?_ <;> intro _ <;> try exact w9o) | (refine w9d ?_ ?_ <;> intro _ <;> try exact w9s) | (refine w9q ?_; intro bnil hbnil)))
    refine CW.loop (fun z : List Pt × List Pt => [(0, .av (ptO (P ++ (z.1 ++ (x :: (z.2 ++ (l.drop (k + 1) ++ R))))))), (1, .av (.int (P.length))), (2, .av (.int (((P.length + l.length : Nat) : Int)))), (3, .av fnP), (8, .av (.int ((P.length : Int) + k))), (9, .av (.int ((P.length : Int) + (z.1.length : Nat))))]) (fun z => S = z.1 ++ z.2 ∧ ∀ y ∈ z.2, tl x y) (fun z => z.1.length) ((S, [])) ?_ (by exact w9a) ?_
    · exact ⟨(List.append_nil _).symm, fun y hy => by cases hy⟩
    rintro ⟨A, B⟩ ⟨hAB, hB⟩
    dsimp only at hAB hB ⊢
    have hAl : A.length + B.length = k := by rw [← hSl, hAB, List.length_append]
    have hmem : ∀ y ∈ A, y ∈ lk := fun y hy => (hSm y).1 (by rw [hAB]; exact List.mem_append_left _ hy)
    rw [hAB] at hS
    have hSA := (List.pairwise_append.1 hS).1
    by_cases hA : A = []
    · subst hA
      have hE := hput [] B hAB (fun y hy => by cases hy) hB
      rw [List.length_nil]
      have hE' : P ++ ([] ++ (x :: (B ++ (l.drop (k + 1) ++ R)))) = P ++ (srt (l.take (k + 1)) ++ (l.drop (k + 1) ++ R)) := by rw [hE]; rfl
      rw [hE']
      (repeat' (first | refine w9x ?_ | (refine w9c ?_ ?_ <;> intro _ <;> try exact w9o) | (refine w9d ?_ ?_ <;> intro _ <;> try exact w9s) | (refine w9q ?_; intro bnil hbnil)))
      all_goals first | (exfalso; omega) | skip
      refine ⟨k+1, ?_, by first | omega | (simp only; omega), by exact w9a⟩
      exact ⟨by omega, by omega⟩
    · obtain ⟨A', y, rfl⟩ : ∃ A' y, A = A' ++ [y] := ⟨A.dropLast, A.getLast hA, (List.dropLast_concat_getLast hA).symm⟩
      have hym := hmem y (by simp)
      have hyx := hlx y hym
      have hgy := hgl y hym
      have hkt := kb_tl hyx
      rw [List.length_append, List.length_singleton] at *
      have eD : P ++ ((A' ++ [y]) ++ (x :: (B ++ (l.drop (k + 1) ++ R)))) = (P ++ A') ++ y :: x :: (B ++ (l.drop (k + 1) ++ R)) := by simp only [List.append_assoc, List.cons_append, List.nil_append]
      have hPA : (P ++ A').length = P.length + A'.length := List.length_append
      have g1 : ((P ++ A') ++ y :: x :: (B ++ (l.drop (k + 1) ++ R)))[((P.length : Int) + ((A'.length + 1 : Nat) : Int)).toNat]? = some x := by
        rw [show ((P.length : Int) + ((A'.length + 1 : Nat) : Int)).toNat = (P ++ A').length + 1 by omega, List.getElem?_append_right (by omega), Nat.add_sub_cancel_left]; rfl
      have g2 : ((P ++ A') ++ y :: x :: (B ++ (l.drop (k + 1) ++ R)))[((P.length : Int) + ((A'.length + 1 : Nat) : Int) - 1).toNat]? = some y := by
        rw [show ((P.length : Int) + ((A'.length + 1 : Nat) : Int) - 1).toNat = (P ++ A').length by omega]; exact mid_at
      by_cases c : kb x y
      · have c' := cfP_lt.2 c
        have hset : (((P ++ A') ++ y :: x :: (B ++ (l.drop (k + 1) ++ R))).set ((P.length : Int) + ((A'.length + 1 : Nat) : Int)).toNat y).set ((P.length : Int) + ((A'.length + 1 : Nat) : Int) - 1).toNat x = P ++ (A' ++ (x :: ((y :: B) ++ (l.drop (k + 1) ++ R)))) := by
          rw [show ((P.length : Int) + ((A'.length + 1 : Nat) : Int)).toNat = (P ++ A').length + 1 by omega, show ((P.length : Int) + ((A'.length + 1 : Nat) : Int) - 1).toNat = (P ++ A').length by omega, swp_at]
          simp only [List.append_assoc, List.cons_append]
        have hDl : ((P ++ A') ++ y :: x :: (B ++ (l.drop (k + 1) ++ R))).length ≤ 1000000 := by simp only [List.length_append, List.length_cons]; omega
        rw [eD]
        generalize (P ++ A') ++ y :: x :: (B ++ (l.drop (k + 1) ++ R)) = D at *
        generalize hD' : P ++ (A' ++ (x :: ((y :: B) ++ (l.drop (k + 1) ++ R)))) = D' at *
        have hi1 := (List.getElem?_eq_some_iff.1 g1).1
        have g3 : (D.set ((P.length : Int) + ((A'.length + 1 : Nat) : Int)).toNat y)[((P.length : Int) + ((A'.length + 1 : Nat) : Int) - 1).toNat]? = some y := by rw [List.getElem?_set_ne (by omega)]; exact g2
        (repeat' (first | refine w9y ?_ | (refine J.callF [ptA x, ptA y] rfl rfl rfl ⟨x, y, rfl, hgx, hgy⟩ (by (repeat' (first | exact ArgsOk.nil | apply ArgsOk.cons | exact ArgOk.pl rfl rfl | exact ArgOk.br rfl AV.noConfusion (by first | rfl | exact sh_int | exact sh_rows | exact sh_rowsO | exact sh_box | exact sh_map (fun _ => rfl))))) (by first | assumption | rfl | simp) rfl ?_) | (refine J.callFQ [ptA x, ptA y] rfl rfl rfl ⟨x, y, rfl, hgx, hgy⟩ (by (repeat' (first | exact ArgsOk.nil | apply ArgsOk.cons | exact ArgOk.pl rfl rfl | exact ArgOk.br rfl AV.noConfusion (by first | rfl | exact sh_int | exact sh_rows | exact sh_rowsO | exact sh_box | exact sh_map (fun _ => rfl))))) (by first | assumption | rfl | simp) rfl ?_) | (refine w9c ?_ ?_ <;> intro _ <;> try exact w9o) | (refine w9d ?_ ?_ <;> intro _ <;> try exact w9s) | (refine w9q ?_; intro bnil hbnil)))
        all_goals first | (exfalso; omega) | skip
        refine CW.cutB [(0, .av (ptO D')), (1, .av (.int (P.length))), (2, .av (.int (((P.length + l.length : Nat) : Int)))), (3, .av fnP), (8, .av (.int ((P.length : Int) + k))), (9, .av (.int ((P.length : Int) + ((A'.length + 1 : Nat) : Int))))] ?_ ?_
        · refine CW.reg0 18 rfl [false, false, false, false, false, false, false, false, false, false, false, false, false, false, false, false, false, false] (by kernel_rfl) rfl ?_
          apply JA.take (i := 0); rfl; (first | exact .inl rfl | exact .inr rfl); rfl; kernel_rfl; exact FM.st
          apply JA.take (i := 1); rfl; (first | exact .inl rfl | exact .inr rfl); rfl; kernel_rfl; exact FM.st
          apply JA.take (i := 2); rfl; (first | exact .inl rfl | exact .inr rfl); rfl; kernel_rfl; exact FM.st
          apply JA.take (i := 3); rfl; (first | exact .inl rfl | exact .inr rfl); rfl; kernel_rfl; exact FM.st
          apply JA.take (i := 5); rfl; (first | exact .inl rfl | exact .inr rfl); rfl; kernel_rfl; exact FM.st
          apply JA.take (i := 6); rfl; (first | exact .inl rfl | exact .inr rfl); rfl; kernel_rfl; exact FM.st
          apply JA.take (i := 10); rfl; (first | exact .inl rfl | exact .inr rfl); rfl; kernel_rfl; exact FM.st
          apply JA.take (i := 11); rfl; (first | exact .inl rfl | exact .inr rfl); rfl; kernel_rfl; exact FM.st
          apply JA.takeW (i := 4); rfl; rfl; kernel_rfl; (first | ((with_reducible apply w_add) <;> exact w9l) | ((with_reducible apply w_sub) <;> exact w9l) | ((with_reducible apply w_ixaO) <;> exact w9l))
          apply JA.takeW (i := 7); rfl; rfl; kernel_rfl; (first | ((with_reducible apply w_add) <;> exact w9l) | ((with_reducible apply w_sub) <;> exact w9l) | ((with_reducible apply w_ixaO) <;> exact w9l))
          apply JA.takeW (i := 8); rfl; rfl; kernel_rfl; (first | ((with_reducible apply w_add) <;> exact w9l) | ((with_reducible apply w_sub) <;> exact w9l) | ((with_reducible apply w_ixaO) <;> exact w9l))
          apply JA.takeW (i := 12); rfl; rfl; kernel_rfl; (first | ((with_reducible apply w_add) <;> exact w9l) | ((with_reducible apply w_sub) <;> exact w9l) | ((with_reducible apply w_ixaO) <;> exact w9l))
          apply JA.two (i := 9) (j := 13); kernel_rfl; rfl; rfl
          · (repeat' (first | refine w9j ?_ | fail))
            apply JA.one (i := 13); kernel_rfl; rfl
            (repeat' (first | refine w9j ?_ | fail))
            apply JA.one (i := 14); kernel_rfl; rfl
            (repeat' (first | refine w9j ?_ | fail))
            apply JA.one (i := 15); kernel_rfl; rfl
            (repeat' (first | refine w9j ?_ | fail))
            apply JA.one (i := 16); kernel_rfl; rfl
            (repeat' (first | refine w9j ?_ | fail))
            apply JA.one (i := 17); kernel_rfl; rfl
            (repeat' (first | refine w9j ?_ | fail))
            refine JA.done (by kernel_rfl) ?_
            exact ⟨rfl, by exact w9a⟩
          · (repeat' (first | refine w9j ?_ | fail))
            apply JA.one (i := 9); kernel_rfl; rfl
            (repeat' (first | refine w9j ?_ | fail))
            apply JA.one (i := 14); kernel_rfl; rfl
            (repeat' (first | refine w9j ?_ | fail))
            apply JA.one (i := 15); kernel_rfl; rfl
            (repeat' (first | refine w9j ?_ | fail))
            apply JA.one (i := 16); kernel_rfl; rfl
            (repeat' (first | refine w9j ?_ | fail))
            apply JA.one (i := 17); kernel_rfl; rfl
            (repeat' (first | refine w9j ?_ | fail))
            refine JA.done (by kernel_rfl) ?_
            exact ⟨rfl, by exact w9a⟩
        (repeat' (first | refine w9x ?_ | (refine w9c ?_ ?_ <;> intro _ <;> try exact w9o) | (refine w9d ?_ ?_ <;> intro _ <;> try exact w9s) | (refine w9q ?_; intro bnil hbnil)))
        refine ⟨(A', y :: B), ?_, by first | omega | (simp only; omega), by exact w9a⟩
        refine ⟨by rw [hAB]; simp, fun z hz => ?_⟩
        rcases List.mem_cons.1 hz with rfl | hz
        · exact hkt.1 c
        · exact hB z hz
      · have c' := mt cfP_lt.1 c
        have hyx' : tl y x := (tl_total hgy hgx (fun e => hnx (e ▸ hym))).resolve_right fun h => c (hkt.2 h)
        have hall : ∀ z ∈ A' ++ [y], tl z x := last_all hSA (fun z hz => hgl z (hmem z hz)) hgx fun hne => by simpa using hyx'
        have hE := hput (A' ++ [y]) B hAB hall hB
        have hE' : P ++ ((A' ++ [y]) ++ (x :: (B ++ (l.drop (k + 1) ++ R)))) = P ++ (srt (l.take (k + 1)) ++ (l.drop (k + 1) ++ R)) := by rw [hE]; simp only [List.append_assoc, List.cons_append]
        rw [eD] at hE' ⊢
        generalize (P ++ A') ++ y :: x :: (B ++ (l.drop (k + 1) ++ R)) = D at *
        (repeat' (first | refine w9x ?_ | (refine J.callF [ptA x, ptA y] rfl rfl rfl ⟨x, y, rfl, hgx, hgy⟩ (by (repeat' (first | exact ArgsOk.nil | apply ArgsOk.cons | exact ArgOk.pl rfl rfl | exact ArgOk.br rfl AV.noConfusion (by first | rfl | exact sh_int | exact sh_rows | exact sh_rowsO | exact sh_box | exact sh_map (fun _ => rfl))))) (by first | assumption | rfl | simp) rfl ?_) | (refine J.callFQ [ptA x, ptA y] rfl rfl rfl ⟨x, y, rfl, hgx, hgy⟩ (by (repeat' (first | exact ArgsOk.nil | apply ArgsOk.cons | exact ArgOk.pl rfl rfl | exact ArgOk.br rfl AV.noConfusion (by first | rfl | exact sh_int | exact sh_rows | exact sh_rowsO | exact sh_box | exact sh_map (fun _ => rfl))))) (by first | assumption | rfl | simp) rfl ?_) | (refine w9c ?_ ?_ <;> intro _ <;> try exact w9o) | (refine w9d ?_ ?_ <;> intro _ <;> try exact w9s) | (refine w9q ?_; intro bnil hbnil)))
        all_goals first | (exfalso; omega) | skip
        refine ⟨k+1, ?_, by first | omega | (simp only; omega), by exact w9a⟩
        exact ⟨by omega, by omega⟩
  · have hE : P ++ (srt (l.take k) ++ (l.drop k ++ R)) = P ++ (srt l ++ R) := by rw [List.take_of_length_le (by omega), List.drop_of_length_le (by omega)]; rfl
    rw [hE]
    (repeat' (first | refine w9x ?_ | (refine w9c ?_ ?_ <;> intro _ <;> try exact w9o) | (refine w9d ?_ ?_ <;> intro _ <;> try exact w9s) | (refine w9q ?_; intro bnil hbnil)))
    all_goals first | (exfalso; omega) | exact ⟨rfl, ⟨_, rfl, .refl _⟩, rfl, args_start (args_mu rfl rfl (args_pl rfl (args_pl rfl (args_pl rfl args_nil))))⟩
end Go.Proofs.Ytohgcgedbhlnfaa
