/- Seats: the reference's shares, by divisors, walked. -/
import Derived.Test.YtohgcgedbhlnfaaNg
import Derived.Test.YtohgcgedbhlnfaaNh
namespace Go.Proofs.Ytohgcgedbhlnfaa
open Go FM Go.Proofs
set_option maxRecDepth 10000
set_option maxHeartbeats 3200000
set_option linter.all false
theorem sum_take_b {l : List Int} (hl8 : l.length ≤ 8) (hl : ∀ x ∈ l, 0 ≤ x ∧ x ≤ 1000000) (k : Nat) : 0 ≤ (l.take k).sum ∧ (l.take k).sum ≤ 8000000 := by
  have h := sum_nn (l := l.take k) fun x hx => hl x (List.mem_of_mem_take hx)
  have : (l.take k).length ≤ 8 := by rw [List.length_take]; omega
  omega
theorem rep_get {n k : Nat} (h : k < n) : (List.replicate n (0 : Int))[k]? = some 0 := by rw [List.getElem?_replicate, if_pos h]
theorem sharesOf12 (way : Int) (hw : 1 ≤ way ∧ way ≤ 2) (H : Nat) (hH : H ≤ 100) (l : List Int) (hl0 : 0 < l.length) (hl8 : l.length ≤ 8) (hl : ∀ x ∈ l, 0 ≤ x ∧ x ≤ 1000000) :
    FnSpec Sy.P 25 [.int way, .sl false 1 ((l).map .int), .int H] [.int way, .sl false 1 ((l).map .int), .int H] (.sl true 1 ((cnts l.length ((srt (pts way H 0 l)).take H)).map .int)) := by
  have hb := sum_take_b hl8 hl
  have hpl : (pts way H 0 l).length = H * l.length := pts_len way H 0 l
  have hSl : (srt (pts way H 0 l)).length = H * l.length := by rw [srt_len, hpl]
  have hSH : H ≤ (srt (pts way H 0 l)).length := by rw [hSl]; exact Nat.le_mul_of_pos_right H hl0
  have hmul : H * l.length ≤ 800 := Nat.mul_le_mul hH hl8
  have hok := pts_ok hw hH hl
  have hS := sortStable_spec (pts way H 0 l) hok (pts_lx hw.1 H 0 l) (by omega)
  have hnx := fun t s (ht : t < H) hs => next_part hw hl hH (t := t) (s := s) ht hs
  have e0 : List.replicate l.length (0 : Int) = cnts l.length ((srt (pts way H 0 l)).take 0) := (cnts_nil _).symm
  have hZl : (List.replicate l.length (0 : Int)).length = l.length := List.length_replicate
  have hZ := fun k (h : k < l.length) => rep_get h
  refine FnSpec.enter (S := Sy) 0 Try.func25 rfl rfl rfl Try.ntmps25 rfl rfl rfl rfl fun v0 => ?_
  (repeat' (first | refine w9x ?_ | (refine w9c ?_ ?_ <;> intro _ <;> try exact w9o) | (refine w9d ?_ ?_ <;> intro _ <;> try exact w9s) | (refine w9q ?_; intro bnil hbnil)))
  refine CW.loop (fun k : Nat => [(0, .av (.int (way))), (1, .av (.sl false 1 ((l).map .int))), (2, .av (.int (H))), (7, .av (.sl true 1 ((List.replicate l.length 0).map .int))), (8, .av (.int ((l.take k).sum))), (23, .av (.sl false 1 ((l).map .int))), (24, .av (.int (l.length))), (25, .av (.int (k)))]) (fun k => k ≤ l.length) (fun k => l.length - k) (0) ?_ (by exact w9a) ?_
  · exact Nat.zero_le _
  intro k hk
  by_cases hlt : k < l.length
  · have hx : l[k]? = some l[k] := List.getElem?_eq_getElem hlt
    have hsn := sum_next hlt
    have hb1 := hb k
    have hb2 := hb (k + 1)
    generalize l[k] = x at *
    generalize List.replicate l.length (0 : Int) = Z at *
    generalize (l.take k).sum = s at *
    (repeat' (first | refine w9x ?_ | (refine w9c ?_ ?_ <;> intro _ <;> try exact w9o) | (refine w9d ?_ ?_ <;> intro _ <;> try exact w9s) | (refine w9q ?_; intro bnil hbnil)))
    all_goals first | (exfalso; omega) | skip
    refine ⟨k+1, ?_, by first | omega | (simp only; omega), by exact w9a⟩
    omega
  · obtain rfl : k = l.length := by omega
    have hA := hb l.length
    generalize (l.take l.length).sum = A at *
    (repeat' (first | refine w9x ?_ | (refine w9c ?_ ?_ <;> intro _ <;> try exact w9o) | (refine w9d ?_ ?_ <;> intro _ <;> try exact w9s) | (refine w9q ?_; intro bnil hbnil)))
    all_goals first | (exfalso; omega) | skip
    refine CW.leS (x := .nil) 11 rfl (AV.le.nil (o := true) (c := 3)) ?_
    refine CW.loop (fun i : Nat => [(0, .av (.int (way))), (1, .av (.sl false 1 ((l).map .int))), (2, .av (.int (H))), (7, .av (.sl true 1 ((List.replicate l.length 0).map .int))), (8, .av (.int (A))), (11, .av (ptO (pts way H 0 (l.take i)))), (33, .av (.sl false 1 ((l).map .int))), (34, .av (.int (l.length))), (35, .av (.int (i)))]) (fun i => i ≤ l.length) (fun i => l.length - i) (0) ?_ (by exact w9a) ?_
    · exact Nat.zero_le _
    intro i hi
    by_cases hil : i < l.length
    · have hx : l[i]? = some l[i] := List.getElem?_eq_getElem hil
      have htk : l.take (i + 1) = l.take i ++ [l[i]] := (List.take_append_getElem hil).symm
      have hti : (l.take i).length = i := by rw [List.length_take]; omega
      have e1 : pts way H 0 (l.take (i + 1)) = pts way H 0 (l.take i) ++ pl way H i l[i] := by rw [htk, pts_snoc, hti, Nat.zero_add]
      have e2 : pts way H 0 (l.take i) = pts way H 0 (l.take i) ++ pl way 0 i l[i] := by simp [pl]
      have hLl : (pts way H 0 (l.take i)).length ≤ 800 := by rw [pts_len, hti]; exact Nat.le_trans (Nat.mul_le_mul hH (show i ≤ 8 by omega)) (by decide)
      generalize l[i] = x at *
      generalize List.replicate l.length (0 : Int) = Z at *
      generalize pts way H 0 (l.take i) = L at *
      (repeat' (first | refine w9x ?_ | (refine w9c ?_ ?_ <;> intro _ <;> try exact w9o) | (refine w9d ?_ ?_ <;> intro _ <;> try exact w9s) | (refine w9q ?_; intro bnil hbnil)))
      all_goals first | (exfalso; omega) | skip
      refine CW.loop (fun k : Nat => [(0, .av (.int (way))), (1, .av (.sl false 1 ((l).map .int))), (2, .av (.int (H))), (7, .av (.sl true 1 ((Z).map .int))), (8, .av (.int (A))), (11, .av (ptO (L ++ pl way k i x))), (12, .av (.int (i))), (13, .av (.int (x))), (33, .av (.sl false 1 ((l).map .int))), (34, .av (.int (l.length))), (35, .av (.int (i))), (65, .av (.int (H))), (66, .av (.int (k)))]) (fun k => k ≤ H) (fun k => H - k) (0) ?_ (by exact w9a) ?_
      · exact Nat.zero_le _
      intro k hk
      by_cases hkH : k < H
      · have e3 : (L ++ pl way k i x) ++ [((i : Int), x, way * (k : Int) + 1)] = L ++ pl way (k + 1) i x := by rw [pl_succ, List.append_assoc]
        have hwk := wayB hw (u := k) (by omega)
        have hll : (L ++ pl way k i x).length ≤ 1000 := by rw [List.length_append, pl_len]; omega
        generalize L ++ pl way k i x = W at *
        have e4 : TV.av (.sl true 3 (W.map ptA ++ [.agg [.int (i : Int), .int x, .int (way * (k : Int) + 1)]])) = .av (ptO (L ++ pl way (k + 1) i x)) := by rw [← e3]; simp only [ptO, List.map_append]; rfl
        (repeat' (first | refine w9x ?_ | (refine w9c ?_ ?_ <;> intro _ <;> try exact w9o) | (refine w9d ?_ ?_ <;> intro _ <;> try exact w9s) | (refine w9q ?_; intro bnil hbnil)))
        all_goals first | (exfalso; omega) | skip
        refine ⟨k+1, ?_, by first | omega | (simp only; omega), by (repeat' (first | exact trivial | rfl | refine And.intro ?_ ?_ | exact int_congr (by omega) | exact int_congr (by dsimp only; omega) | exact ints_congr (by first | assumption | exact Eq.symm (by assumption)) | exact int_congr (by assumption) | exact bool_congr (by first | assumption | exact Eq.symm (by assumption)) | exact map_congr' (by first | assumption | exact Eq.symm (by assumption)) | exact e4))⟩
        omega
      · obtain rfl : k = H := by omega
        rw [← e1]
        (repeat' (first | refine w9x ?_ | (refine w9c ?_ ?_ <;> intro _ <;> try exact w9o) | (refine w9d ?_ ?_ <;> intro _ <;> try exact w9s) | (refine w9q ?_; intro bnil hbnil)))
        all_goals first | (exfalso; omega) | skip
        refine ⟨i+1, ?_, by first | omega | (simp only; omega), by exact w9a⟩
        omega
    · obtain rfl : i = l.length := by omega
      rw [List.take_length]
      have hmapS : ∀ p ∈ srt (pts way H 0 l), True := fun _ _ => trivial
      generalize pts way H 0 l = L at *
      generalize srt L = S at *
      generalize List.replicate l.length (0 : Int) = Z at *
      (repeat' (first | (refine J.callM1 hS rfl rfl rfl rfl rfl (.cons cmpP_argM .nil) NoShI.out NoShI.out ?_) | refine w9x ?_ | (refine w9c ?_ ?_ <;> intro _ <;> try exact w9o) | (refine w9d ?_ ?_ <;> intro _ <;> try exact w9s) | (refine w9q ?_; intro bnil hbnil)))
      all_goals first | (exfalso; omega) | skip
      refine CW.loop (fun k : Nat => [(2, .av (.int (H))), (84, .ref 7), (7, .av (.sl true 1 ((Z).map .int))), (11, .av (ptO S)), (15, .av (.int (H))), (85, .av (.int (l.length))), (86, .av (.int (k)))]) (fun k => k ≤ l.length) (fun k => l.length - k) (0) ?_ (by exact w9a) ?_
      · exact Nat.zero_le _
      intro k hk
      by_cases hkl : k < l.length
      · have hz := hZ k hkl
        (repeat' (first | refine w9x ?_ | (refine w9c ?_ ?_ <;> intro _ <;> try exact w9o) | (refine w9d ?_ ?_ <;> intro _ <;> try exact w9s) | (refine w9q ?_; intro bnil hbnil)))
        all_goals first | (exfalso; omega) | skip
        refine ⟨k+1, ?_, by first | omega | (simp only; omega), by exact w9a⟩
        omega
      · obtain rfl : k = l.length := by omega
        have hTl : (S.take H).length = H := by rw [List.length_take]; omega
        (repeat' (first | (refine J.freezeO 11 rfl rfl (sh_map (g := ptA) (fun _ => rfl)) rfl ?_) | refine w9x ?_ | (refine w9c ?_ ?_ <;> intro _ <;> try exact w9o) | (refine w9d ?_ ?_ <;> intro _ <;> try exact w9s) | (refine w9q ?_; intro bnil hbnil)))
        all_goals first | (exfalso; omega) | skip
        refine CW.loop (fun j : Nat => [(7, .av (.sl true 1 ((cnts l.length (S.take j)).map .int))), (96, .av (.sl false 3 ((S.take H).map ptA))), (97, .av (.int (H))), (98, .av (.int (j)))]) (fun j => j ≤ H) (fun j => H - j) (0) ?_ (by (repeat' (first | exact trivial | rfl | refine And.intro ?_ ?_ | exact int_congr (by omega) | exact int_congr (by dsimp only; omega) | exact ints_congr (by first | assumption | exact Eq.symm (by assumption)) | exact int_congr (by assumption) | exact bool_congr (by first | assumption | exact Eq.symm (by assumption)) | exact map_congr' (by first | assumption | exact Eq.symm (by assumption)) | exact int_congr (by rw [show ((H : Int)).toNat = H from rfl, hTl])))) ?_
        · exact Nat.zero_le _
        intro j hj
        by_cases hjH : j < H
        · have hst : S[j]? = some S[j] := List.getElem?_eq_getElem (by omega)
          obtain ⟨w, hwl, hsw, _⟩ := hnx j _ hjH hst
          have htk : S.take (j + 1) = S.take j ++ [S[j]] := (List.take_append_getElem (by omega)).symm
          have hcn : (cnts l.length (S.take j)).set w ((cw (S.take j) w : Int) + 1) = cnts l.length (S.take (j + 1)) := by
            rw [htk]; exact (cnts_snoc (by rw [hsw]) hwl).symm
          have hg := cnts_get (S := S.take j) hwl
          have hcl := cnts_len l.length (S.take j)
          have hcb : cw (S.take j) w ≤ 100 := by have := cw_le (S.take j) w; rw [List.length_take] at this; omega
          have hTj : (S.take H)[j]? = some ((w : Int), l.getD w 0, way * ((cw (S.take j) w : Nat) : Int) + 1) := by rw [List.getElem?_take, if_pos hjH, hst, hsw]
          generalize way * ((cw (S.take j) w : Nat) : Int) + 1 = pb at *
          generalize l.getD w 0 = pq at *
          generalize cw (S.take j) w = u at *
          generalize cnts l.length (S.take j) = C at *
          (repeat' (first | refine w9x ?_ | (refine w9c ?_ ?_ <;> intro _ <;> try exact w9o) | (refine w9d ?_ ?_ <;> intro _ <;> try exact w9s) | (refine w9q ?_; intro bnil hbnil)))
          all_goals first | (exfalso; omega) | skip
          refine ⟨j+1, ?_, by first | omega | (simp only; omega), by exact w9a⟩
          omega
        · obtain rfl : j = H := by omega
          (repeat' (first | refine w9x ?_ | (refine w9c ?_ ?_ <;> intro _ <;> try exact w9o) | (refine w9d ?_ ?_ <;> intro _ <;> try exact w9s) | (refine w9q ?_; intro bnil hbnil)))
          all_goals first | (exfalso; omega) | exact .mk rfl rfl rfl
end Go.Proofs.Ytohgcgedbhlnfaa
