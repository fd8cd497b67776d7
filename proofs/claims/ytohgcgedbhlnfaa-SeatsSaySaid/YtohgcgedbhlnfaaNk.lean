/- Seats shared, walked. -/
import Derived.Test.YtohgcgedbhlnfaaNj
namespace Go.Proofs.Ytohgcgedbhlnfaa
open Go FM Go.Proofs
set_option maxRecDepth 10000
set_option maxHeartbeats 3200000
set_option linter.all false
theorem share_way (way H : Int) (l : List Int) (hw : way < 1 ∨ 3 < way) : FnSpec Sy.P 21 [.int way, .sl false 1 ((l).map .int), .int H] [.int way, .sl false 1 ((l).map .int), .int H] (.tup [.nil, .int 1]) := by
  refine FnSpec.enter (S := Sy) 0 Try.func21 rfl rfl rfl Try.ntmps21 rfl rfl rfl rfl fun v0 => ?_
  (repeat' (first | refine w9x ?_ | (refine w9c ?_ ?_ <;> intro _ <;> try exact w9o) | (refine w9d ?_ ?_ <;> intro _ <;> try exact w9s) | (refine w9q ?_; intro bnil hbnil)))
  all_goals first | (exfalso; omega) | exact .mk rfl rfl rfl
theorem share_err (way H : Int) (l : List Int) (hw : 1 ≤ way ∧ way ≤ 3) (hl : l.length ≤ 9223372036854775807) (he : peE l H ≠ 0) : FnSpec Sy.P 21 [.int way, .sl false 1 ((l).map .int), .int H] [.int way, .sl false 1 ((l).map .int), .int H] (.tup [.nil, .int (peE l H)]) := by
  have hC := sCheck_spec l H hl
  generalize peE l H = e at *
  refine FnSpec.enter (S := Sy) 0 Try.func21 rfl rfl rfl Try.ntmps21 rfl rfl rfl rfl fun v0 => ?_
  (repeat' (first | refine w9x ?_ | refine w9p (hC) ?_ | (refine w9c ?_ ?_ <;> intro _ <;> try exact w9o) | (refine w9d ?_ ?_ <;> intro _ <;> try exact w9s) | (refine w9q ?_; intro bnil hbnil)))
  all_goals first | (exfalso; omega) | exact .mk rfl rfl rfl
theorem share12 (way : Int) (hw : 1 ≤ way ∧ way ≤ 2) (H : Nat) (hH : H ≤ 100) (l : List Int) (hl0 : 0 < l.length) (hl8 : l.length ≤ 8) (hl : ∀ x ∈ l, 0 ≤ x ∧ x ≤ 1000000) (he : peE l H = 0) :
    FnSpec Sy.P 21 [.int way, .sl false 1 ((l).map .int), .int H] [.int way, .sl false 1 ((l).map .int), .int H] (.tup [.sl true 1 ((cnts l.length ((srt (pts way H 0 l)).take H)).map .int), .int 0]) := by
  have hC := sCheck_spec l H (by omega)
  rw [he] at hC
  have hD := divided_spec way hw H hH l hl0 hl8 hl
  generalize cnts l.length ((srt (pts way H 0 l)).take H) = R at *
  rcases (show way = 1 ∨ way = 2 by omega) with rfl | rfl
  · refine FnSpec.enter (S := Sy) 0 Try.func21 rfl rfl rfl Try.ntmps21 rfl rfl rfl rfl fun v0 => ?_
    (repeat' (first | refine w9x ?_ | refine w9p (hC) ?_ | refine w9p (hD) ?_ | (refine w9c ?_ ?_ <;> intro _ <;> try exact w9o) | (refine w9d ?_ ?_ <;> intro _ <;> try exact w9s) | (refine w9q ?_; intro bnil hbnil)))
    all_goals first | (exfalso; omega) | exact .mk rfl rfl rfl
  · refine FnSpec.enter (S := Sy) 0 Try.func21 rfl rfl rfl Try.ntmps21 rfl rfl rfl rfl fun v0 => ?_
    (repeat' (first | refine w9x ?_ | refine w9p (hC) ?_ | refine w9p (hD) ?_ | (refine w9c ?_ ?_ <;> intro _ <;> try exact w9o) | (refine w9d ?_ ?_ <;> intro _ <;> try exact w9s) | (refine w9q ?_; intro bnil hbnil)))
    all_goals first | (exfalso; omega) | exact .mk rfl rfl rfl
theorem share3 (H : Nat) (hH : H ≤ 100) (l : List Int) (hl0 : 0 < l.length) (hl8 : l.length ≤ 8) (hl : ∀ x ∈ l, 0 ≤ x ∧ x ≤ 1000000) (hA : 0 < l.sum) (he : peE l H = 0) :
    FnSpec Sy.P 21 [.int 3, .sl false 1 ((l).map .int), .int H] [.int 3, .sl false 1 ((l).map .int), .int H] (.tup [.sl true 1 ((cntB (l.map (qS H l.sum)) ((sr3 H l).take (lf3 H l))).map .int), .int 0]) := by
  have hC := sCheck_spec l H (by omega)
  rw [he] at hC
  have hb := sum_take_b hl8 hl
  have hA8 := hb l.length
  rw [List.take_length] at hA8
  have hqm := fun x hx => qm_ok (H := H) hA (by omega) (hl x hx)
  obtain ⟨hlf0, hlf1⟩ := left_ok (H := H) hl0 (by omega) hl hA
  have hrm : ∀ x ∈ l.map (mS H l.sum), 0 ≤ x ∧ x ≤ 1000000000 := fun x hx => by
    obtain ⟨y, hy, rfl⟩ := List.mem_map.1 hx
    have := (hqm y hy).2.2.2.1
    omega
  have hrl : (rm3 0 (l.map (mS H l.sum))).length = l.length := by rw [rm3_len, List.length_map]
  have hSl : (srt (rm3 0 (l.map (mS H l.sum)))).length = l.length := by rw [srt_len, hrl]
  have hnx := fun t s hs => next_rm3 (t := t) (s := s) hrm hs
  rw [List.length_map] at hnx
  have e0 := pfx_zero (qS H l.sum) l
  have e1 := pfx_zero (mS H l.sum) l
  have e9 := pfx_end (qS H l.sum) l
  have e8 := pfx_end (mS H l.sum) l
  have hqs : ∀ k, 0 ≤ ((l.map (qS H l.sum)).take k).sum ∧ ((l.map (qS H l.sum)).take k).sum ≤ 800000000 := fun k => by
    rw [← List.map_take]
    have h1 := sum_bd (f := qS H l.sum) (c := 100000000) (l := l.take k) fun x hx => (hqm x (List.mem_of_mem_take hx)).2.1
    have : (l.take k).length ≤ 8 := by rw [List.length_take]; omega
    omega
  have hZl : (l.map (qS H l.sum)).length = l.length := List.length_map ..
  have hMl : (l.map (mS H l.sum)).length = l.length := List.length_map ..
  have hc0 : l.map (qS H l.sum) = cntB (l.map (qS H l.sum)) ((srt (rm3 0 (l.map (mS H l.sum)))).take 0) := (cntB_nil _).symm
  have hr0 : l.map (mS H l.sum) = rstL (l.map (mS H l.sum)) ((srt (rm3 0 (l.map (mS H l.sum)))).take 0) := (rstL_nil _).symm
  refine FnSpec.enter (S := Sy) 0 Try.func21 rfl rfl rfl Try.ntmps21 rfl rfl rfl rfl fun v0 => ?_
  (repeat' (first | refine w9x ?_ | refine w9p (hC) ?_ | (refine w9c ?_ ?_ <;> intro _ <;> try exact w9o) | (refine w9d ?_ ?_ <;> intro _ <;> try exact w9s) | (refine w9q ?_; intro bnil hbnil)))
  all_goals first | (exfalso; omega) | skip
  refine CW.loop (fun k : Nat => [(1, .av (.sl false 1 ((l).map .int))), (2, .av (.int (H))), (9, .av (.int ((l.take k).sum))), (42, .av (.sl false 1 ((l).map .int))), (43, .av (.int (l.length))), (44, .av (.int (k)))]) (fun k => k ≤ l.length) (fun k => l.length - k) (0) ?_ (by exact w9a) ?_
  · exact Nat.zero_le _
  intro k hk
  by_cases hlt : k < l.length
  · have hx : l[k]? = some l[k] := List.getElem?_eq_getElem hlt
    have hsn := sum_next hlt
    have hb1 := hb k
    have hb2 := hb (k + 1)
    generalize l[k] = x at *
    generalize (l.take k).sum = s at *
    (repeat' (first | refine w9x ?_ | (refine w9c ?_ ?_ <;> intro _ <;> try exact w9o) | (refine w9d ?_ ?_ <;> intro _ <;> try exact w9s) | (refine w9q ?_; intro bnil hbnil)))
    all_goals first | (exfalso; omega) | skip
    refine ⟨k+1, ?_, by first | omega | (simp only; omega), by exact w9a⟩
    omega
  · obtain rfl : k = l.length := by omega
    rw [List.take_length]
    generalize hAe : l.sum = A at *
    (repeat' (first | refine w9x ?_ | (refine w9c ?_ ?_ <;> intro _ <;> try exact w9o) | (refine w9d ?_ ?_ <;> intro _ <;> try exact w9s) | (refine w9q ?_; intro bnil hbnil)))
    all_goals first | (exfalso; omega) | skip
    refine CW.loop (fun i : Nat => [(1, .av (.sl false 1 ((l).map .int))), (2, .av (.int (H))), (9, .av (.int (A))), (12, .av (.sl true 1 ((pfx (qS H A) l i).map .int))), (13, .av (.sl true 1 ((pfx (mS H A) l i).map .int))), (14, .av (.int ((H : Int) - ((l.map (qS H A)).take i).sum))), (59, .av (.sl false 1 ((l).map .int))), (60, .av (.int (l.length))), (61, .av (.int (i)))]) (fun i => i ≤ l.length) (fun i => l.length - i) (0) ?_ (by (repeat' (first | exact trivial | rfl | refine And.intro ?_ ?_ | exact int_congr (by omega) | exact int_congr (by dsimp only; omega) | exact ints_congr (by first | assumption | exact Eq.symm (by assumption)) | exact int_congr (by assumption) | exact bool_congr (by first | assumption | exact Eq.symm (by assumption)) | exact map_congr' (by first | assumption | exact Eq.symm (by assumption)) | exact int_congr (by simp)))) ?_
    · exact Nat.zero_le _
    intro i hi
    by_cases hil : i < l.length
    · have hx : l[i]? = some l[i] := List.getElem?_eq_getElem hil
      obtain ⟨f1, f2⟩ := pfx_step (f := qS H A) hil
      have f3 := pfx_len (f := qS H A) (l := l) hi
      have f4 : ((pfx (qS H A) l i).set i (qS H A l[i]))[i]? = some (qS H A l[i]) := List.getElem?_set_self (by omega)
      obtain ⟨k1, k2⟩ := pfx_step (f := mS H A) hil
      have k3 := pfx_len (f := mS H A) (l := l) hi
      obtain ⟨g1, g2, g3, g4, g5⟩ := hqm _ (List.getElem_mem hil)
      rw [← g5] at k2
      have hsn : ((l.map (qS H A)).take (i + 1)).sum = ((l.map (qS H A)).take i).sum + qS H A l[i] := by rw [sum_next (by omega), List.getElem_map]
      have hb1 := hqs i
      have hb2 := hqs (i + 1)
      generalize hQ : ((l.map (qS H A)).take i).sum = Q at *
      generalize hQ' : ((l.map (qS H A)).take (i + 1)).sum = Q' at *
      generalize l[i] = x at *
      rw [f2] at f4
      generalize hC1 : pfx (qS H A) l (i + 1) = C1 at *
      generalize hM1 : pfx (mS H A) l (i + 1) = M1 at *
      generalize pfx (qS H A) l i = C at *
      generalize pfx (mS H A) l i = M at *
      unfold qS at f2 f4 hsn g2 g3
      (repeat' (first | refine w9z ?_ | (refine w9c ?_ ?_ <;> intro _ <;> try exact w9o) | (refine w9d ?_ ?_ <;> intro _ <;> try exact w9s) | (refine w9q ?_; intro bnil hbnil)))
      all_goals first | (exfalso; omega) | skip
      refine CW.cut [(1, .av (.sl false 1 ((l).map .int))), (2, .av (.int (H))), (9, .av (.int (A))), (12, .av (.sl true 1 ((C1).map .int))), (13, .av (.sl true 1 ((M1).map .int))), (14, .av (.int ((H : Int) - Q))), (15, .av (.int (i))), (16, .av (.int (x))), (59, .av (.sl false 1 ((l).map .int))), (60, .av (.int (l.length))), (61, .av (.int (i)))] ?_ ?_
      · refine CW.reg0 18 rfl [false, false, false, false, false, false, false, false, false, false, false, false, false, false, false, false, false, false] (by kernel_rfl) rfl ?_
        apply JA.take (i := 0); rfl; (first | exact .inl rfl | exact .inr rfl); rfl; kernel_rfl; exact FM.st
        apply JA.take (i := 1); rfl; (first | exact .inl rfl | exact .inr rfl); rfl; kernel_rfl; exact FM.st
        apply JA.take (i := 2); rfl; (first | exact .inl rfl | exact .inr rfl); rfl; kernel_rfl; exact FM.st
        apply JA.take (i := 3); rfl; (first | exact .inl rfl | exact .inr rfl); rfl; kernel_rfl; exact FM.st
        apply JA.take (i := 4); rfl; (first | exact .inl rfl | exact .inr rfl); rfl; kernel_rfl; exact FM.st
        apply JA.take (i := 5); rfl; (first | exact .inl rfl | exact .inr rfl); rfl; kernel_rfl; exact FM.st
        apply JA.take (i := 7); rfl; (first | exact .inl rfl | exact .inr rfl); rfl; kernel_rfl; exact FM.st
        apply JA.take (i := 9); rfl; (first | exact .inl rfl | exact .inr rfl); rfl; kernel_rfl; exact FM.st
        apply JA.take (i := 10); rfl; (first | exact .inl rfl | exact .inr rfl); rfl; kernel_rfl; exact FM.st
        apply JA.take (i := 12); rfl; (first | exact .inl rfl | exact .inr rfl); rfl; kernel_rfl; exact FM.st
        apply JA.two (i := 6) (j := 11); kernel_rfl; rfl; rfl
        · (repeat' (first | refine w9j ?_ | fail))
          apply JA.two (i := 8) (j := 11); kernel_rfl; rfl; rfl
          · (repeat' (first | refine w9j ?_ | fail))
            apply JA.takeW (i := 14); rfl; rfl; kernel_rfl; (first | ((with_reducible apply w_add) <;> exact w9l) | ((with_reducible apply w_sub) <;> exact w9l) | ((with_reducible apply w_ixaO) <;> exact w9l))
            apply JA.two (i := 11) (j := 15); kernel_rfl; rfl; rfl
            · (repeat' (first | refine w9j ?_ | fail))
              apply JA.two (i := 13) (j := 15); kernel_rfl; rfl; rfl
              · (repeat' (first | refine w9j ?_ | fail))
                apply JA.one (i := 15); kernel_rfl; rfl
                (repeat' (first | refine w9j ?_ | fail))
                apply JA.one (i := 16); kernel_rfl; rfl
                (repeat' (first | refine w9j ?_ | fail))
                apply JA.one (i := 17); kernel_rfl; rfl
                (repeat' (first | refine w9j ?_ | fail))
                refine JA.done (by kernel_rfl) ?_
                exact ⟨rfl, by exact w9a⟩
              · (repeat' (first | refine w9j ?_ | fail))
                apply JA.one (i := 13); kernel_rfl; rfl
                (repeat' (first | refine w9j ?_ | fail))
                apply JA.one (i := 16); kernel_rfl; rfl
                (repeat' (first | refine w9j ?_ | fail))
                apply JA.one (i := 17); kernel_rfl; rfl
                (repeat' (first | refine w9j ?_ | fail))
                refine JA.done (by kernel_rfl) ?_
                exact ⟨rfl, by exact w9a⟩
            · (repeat' (first | refine w9j ?_ | fail))
              apply JA.one (i := 11); kernel_rfl; rfl
              (repeat' (first | refine w9j ?_ | fail))
              apply JA.one (i := 13); kernel_rfl; rfl
              (repeat' (first | refine w9j ?_ | fail))
              apply JA.one (i := 16); kernel_rfl; rfl
              (repeat' (first | refine w9j ?_ | fail))
              apply JA.one (i := 17); kernel_rfl; rfl
              (repeat' (first | refine w9j ?_ | fail))
              refine JA.done (by kernel_rfl) ?_
              exact ⟨rfl, by exact w9a⟩
          · (repeat' (first | refine w9j ?_ | fail))
            apply JA.two (i := 8) (j := 13); kernel_rfl; rfl; rfl
            · (repeat' (first | refine w9j ?_ | fail))
              apply JA.takeW (i := 14); rfl; rfl; kernel_rfl; (first | ((with_reducible apply w_add) <;> exact w9l) | ((with_reducible apply w_sub) <;> exact w9l) | ((with_reducible apply w_ixaO) <;> exact w9l))
              apply JA.two (i := 13) (j := 15); kernel_rfl; rfl; rfl
              · (repeat' (first | refine w9j ?_ | fail))
                apply JA.one (i := 15); kernel_rfl; rfl
                (repeat' (first | refine w9j ?_ | fail))
                apply JA.one (i := 16); kernel_rfl; rfl
                (repeat' (first | refine w9j ?_ | fail))
                apply JA.one (i := 17); kernel_rfl; rfl
                (repeat' (first | refine w9j ?_ | fail))
                refine JA.done (by kernel_rfl) ?_
                exact ⟨rfl, by exact w9a⟩
              · (repeat' (first | refine w9j ?_ | fail))
                apply JA.one (i := 13); kernel_rfl; rfl
                (repeat' (first | refine w9j ?_ | fail))
                apply JA.one (i := 16); kernel_rfl; rfl
                (repeat' (first | refine w9j ?_ | fail))
                apply JA.one (i := 17); kernel_rfl; rfl
                (repeat' (first | refine w9j ?_ | fail))
                refine JA.done (by kernel_rfl) ?_
                exact ⟨rfl, by exact w9a⟩
            · (repeat' (first | refine w9j ?_ | fail))
              apply JA.one (i := 8); kernel_rfl; rfl
              (repeat' (first | refine w9j ?_ | fail))
              apply JA.one (i := 14); kernel_rfl; rfl
              (repeat' (first | refine w9j ?_ | fail))
              apply JA.one (i := 15); kernel_rfl; rfl
              (repeat' (first | refine w9j ?_ | fail))
              apply JA.one (i := 16); kernel_rfl; rfl
              (repeat' (first | refine w9j ?_ | fail))
              apply JA.one (i := 17); kernel_rfl; rfl
              (repeat' (first | refine w9j ?_ | fail))
              refine JA.done (by kernel_rfl) ?_
              exact ⟨rfl, by exact w9a⟩
        · (repeat' (first | refine w9j ?_ | fail))
          apply JA.two (i := 6) (j := 13); kernel_rfl; rfl; rfl
          · (repeat' (first | refine w9j ?_ | fail))
            apply JA.two (i := 8) (j := 13); kernel_rfl; rfl; rfl
            · (repeat' (first | refine w9j ?_ | fail))
              apply JA.takeW (i := 14); rfl; rfl; kernel_rfl; (first | ((with_reducible apply w_add) <;> exact w9l) | ((with_reducible apply w_sub) <;> exact w9l) | ((with_reducible apply w_ixaO) <;> exact w9l))
              apply JA.two (i := 13) (j := 15); kernel_rfl; rfl; rfl
              · (repeat' (first | refine w9j ?_ | fail))
                apply JA.one (i := 15); kernel_rfl; rfl
                (repeat' (first | refine w9j ?_ | fail))
                apply JA.one (i := 16); kernel_rfl; rfl
                (repeat' (first | refine w9j ?_ | fail))
                apply JA.one (i := 17); kernel_rfl; rfl
                (repeat' (first | refine w9j ?_ | fail))
                refine JA.done (by kernel_rfl) ?_
                exact ⟨rfl, by exact w9a⟩
              · (repeat' (first | refine w9j ?_ | fail))
                apply JA.one (i := 13); kernel_rfl; rfl
                (repeat' (first | refine w9j ?_ | fail))
                apply JA.one (i := 16); kernel_rfl; rfl
                (repeat' (first | refine w9j ?_ | fail))
                apply JA.one (i := 17); kernel_rfl; rfl
                (repeat' (first | refine w9j ?_ | fail))
                refine JA.done (by kernel_rfl) ?_
                exact ⟨rfl, by exact w9a⟩
            · (repeat' (first | refine w9j ?_ | fail))
              apply JA.one (i := 8); kernel_rfl; rfl
              (repeat' (first | refine w9j ?_ | fail))
              apply JA.one (i := 14); kernel_rfl; rfl
              (repeat' (first | refine w9j ?_ | fail))
              apply JA.one (i := 15); kernel_rfl; rfl
              (repeat' (first | refine w9j ?_ | fail))
              apply JA.one (i := 16); kernel_rfl; rfl
              (repeat' (first | refine w9j ?_ | fail))
              apply JA.one (i := 17); kernel_rfl; rfl
              (repeat' (first | refine w9j ?_ | fail))
              refine JA.done (by kernel_rfl) ?_
              exact ⟨rfl, by exact w9a⟩
          · (repeat' (first | refine w9j ?_ | fail))
            apply JA.one (i := 6); kernel_rfl; rfl
            (repeat' (first | refine w9j ?_ | fail))
            apply JA.one (i := 8); kernel_rfl; rfl
            (repeat' (first | refine w9j ?_ | fail))
            apply JA.one (i := 14); kernel_rfl; rfl
            (repeat' (first | refine w9j ?_ | fail))
            apply JA.one (i := 15); kernel_rfl; rfl
            (repeat' (first | refine w9j ?_ | fail))
            apply JA.one (i := 16); kernel_rfl; rfl
            (repeat' (first | refine w9j ?_ | fail))
            apply JA.one (i := 17); kernel_rfl; rfl
            (repeat' (first | refine w9j ?_ | fail))
            refine JA.done (by kernel_rfl) ?_
            exact ⟨rfl, by exact w9a⟩
      (repeat' (first | refine w9x ?_ | (refine w9c ?_ ?_ <;> intro _ <;> try exact w9o) | (refine w9d ?_ ?_ <;> intro _ <;> try exact w9s) | (refine w9q ?_; intro bnil hbnil)))
      all_goals first | (exfalso; omega) | skip
      refine ⟨i+1, ?_, by first | omega | (simp only; omega), by exact w9a⟩
      omega
    · obtain rfl : i = l.length := by omega
      rw [e9, e8]
      unfold lf3 sr3 at *
      rw [hAe] at *
      obtain ⟨lf, hlf⟩ : ∃ lf : Nat, (H : Int) - (l.map (qS H A)).sum = lf := ⟨((H : Int) - (l.map (qS H A)).sum).toNat, by omega⟩
      have hZt : ((l.map (qS H A)).take l.length).sum = (l.map (qS H A)).sum := by rw [List.take_of_length_le (by omega)]
      rw [hZt]
      rw [hlf] at hlf0 hlf1 ⊢
      rw [Int.toNat_natCast]
      have hZb : ∀ w, w < l.length → 0 ≤ (l.map (qS H A)).getD w 0 ∧ (l.map (qS H A)).getD w 0 ≤ 100000000 := fun w hw => by
        have h1 : (l.map (qS H A))[w]? = some (qS H A l[w]) := by rw [List.getElem?_map, List.getElem?_eq_getElem hw]; rfl
        rw [List.getD_eq_getElem?_getD, h1, Option.getD_some]
        exact (hqm _ (List.getElem_mem hw)).2.1
      generalize rm3 0 (l.map (mS H A)) = L at *
      generalize srt L = S at *
      generalize l.map (qS H A) = Z at *
      generalize l.map (mS H A) = M at *
      (repeat' (first | refine w9x ?_ | (refine w9c ?_ ?_ <;> intro _ <;> try exact w9o) | (refine w9d ?_ ?_ <;> intro _ <;> try exact w9s) | (refine w9q ?_; intro bnil hbnil)))
      all_goals first | (exfalso; omega) | skip
      refine CW.loop (fun t : Nat => [(12, .av (.sl true 1 ((cntB Z (S.take t)).map .int))), (13, .av (.sl true 1 ((rstL M (S.take t)).map .int))), (89, .av (.int (lf))), (90, .av (.int (t)))]) (fun t => t ≤ lf) (fun t => lf - t) (0) ?_ (by exact w9a) ?_
      · exact Nat.zero_le _
      intro t ht
      by_cases htl : t < lf
      · have hst : S[t]? = some S[t] := List.getElem?_eq_getElem (by omega)
        obtain ⟨w, hwl, hsw, hw0, hall⟩ := hnx t _ hst
        have htk : S.take (t + 1) = S.take t ++ [S[t]] := (List.take_append_getElem (by omega)).symm
        have hwZ : w < Z.length := by omega
        have hwM : w < M.length := by omega
        have hcn : (cntB Z (S.take t)).set w (Z.getD w 0 + (cw (S.take t) w : Int) + 1) = cntB Z (S.take (t + 1)) := by
          rw [htk]; exact (cntB_snoc (by rw [hsw]) hwZ).symm
        have hrn : (rstL M (S.take t)).set w (-1) = rstL M (S.take (t + 1)) := by rw [htk]; exact (rstL_snoc (by rw [hsw]) hwM).symm
        rw [hw0] at hcn
        have hgw := cntB_get (S := S.take t) hwZ
        rw [hw0] at hgw
        have hzb := hZb w hwl
        have hcl := cntB_len Z (S.take t)
        have hrl2 := rstL_len M (S.take t)
        have hrg := fun i (h : i < M.length) => rstL_get (T := S.take t) h
        generalize Z.getD w 0 = zw at *
        generalize hT : S.take t = T at *
        generalize cntB Z T = C at *
        generalize rstL M T = D at *
        (repeat' (first | refine w9x ?_ | (refine w9c ?_ ?_ <;> intro _ <;> try exact w9o) | (refine w9d ?_ ?_ <;> intro _ <;> try exact w9s) | (refine w9q ?_; intro bnil hbnil)))
        refine CW.loop (fun z : Nat × Nat => [(12, .av (.sl true 1 ((C).map .int))), (92, .ref 13), (13, .av (.sl true 1 ((D).map .int))), (17, .av (.int (z.2))), (89, .av (.int (lf))), (90, .av (.int (t))), (93, .av (.int (l.length))), (94, .av (.int (z.1)))]) (fun z => z.1 ≤ l.length ∧ z.2 < l.length ∧ Mx (cand3 M T) z.1 z.2) (fun z => l.length - z.1) ((0, 0)) ?_ (by exact w9a) ?_
        · exact ⟨Nat.zero_le _, hl0, Mx.zero _⟩
        rintro ⟨i, b⟩ ⟨hi, hb', hM⟩
        dsimp only at hi hb' hM ⊢
        by_cases hil : i < l.length
        · have g3 := hrg i (by omega)
          have g4 := hrg b (by omega)
          have hst1 := hM.stay (i := i)
          have hmv1 := hM.move (i := i) (fun j => by show (0 : Int) < 1; omega)
          unfold kb at hst1 hmv1
          dsimp only at hst1 hmv1
          rw [Int.mul_one, Int.mul_one] at hst1 hmv1
          by_cases c : rs3 M T b < rs3 M T i
          · have hM' := hmv1 c
            generalize rs3 M T i = x at *
            generalize rs3 M T b = y at *
            (repeat' (first | refine w9x ?_ | (refine w9c ?_ ?_ <;> intro _ <;> try exact w9o) | (refine w9d ?_ ?_ <;> intro _ <;> try exact w9s) | (refine w9q ?_; intro bnil hbnil)))
            all_goals first | (exfalso; omega) | skip
            refine ⟨(i + 1, i), ?_, by first | omega | (simp only; omega), by exact w9a⟩
            exact ⟨by dsimp only; omega, hil, hM'⟩
          · have hM' := hst1 c
            generalize rs3 M T i = x at *
            generalize rs3 M T b = y at *
            (repeat' (first | refine w9x ?_ | (refine w9c ?_ ?_ <;> intro _ <;> try exact w9o) | (refine w9d ?_ ?_ <;> intro _ <;> try exact w9s) | (refine w9q ?_; intro bnil hbnil)))
            all_goals first | (exfalso; omega) | skip
            refine ⟨(i + 1, b), ?_, by first | omega | (simp only; omega), by exact w9a⟩
            exact ⟨by dsimp only; omega, hb', hM'⟩
        · obtain rfl : i = l.length := by omega
          have hbw : b = w := hM.is hl0 hwl (fun j hj => rfl) hall
          subst hbw
          have g4 := hrg b hwM
          (repeat' (first | refine w9x ?_ | (refine w9c ?_ ?_ <;> intro _ <;> try exact w9o) | (refine w9d ?_ ?_ <;> intro _ <;> try exact w9s) | (refine w9q ?_; intro bnil hbnil)))
          all_goals first | (exfalso; omega) | skip
          refine ⟨t+1, ?_, by first | omega | (simp only; omega), by exact w9a⟩
          omega
      · obtain rfl : t = lf := by omega
        (repeat' (first | refine w9x ?_ | (refine w9c ?_ ?_ <;> intro _ <;> try exact w9o) | (refine w9d ?_ ?_ <;> intro _ <;> try exact w9s) | (refine w9q ?_; intro bnil hbnil)))
        all_goals first | (exfalso; omega) | exact .mk rfl rfl rfl
end Go.Proofs.Ytohgcgedbhlnfaa
