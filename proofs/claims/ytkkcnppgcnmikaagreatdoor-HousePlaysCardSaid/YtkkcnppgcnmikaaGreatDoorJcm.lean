/- What is taken in: the next offer, by the reference. -/
import Derived.Test.YtkkcnppgcnmikaaGreatDoorJam
namespace Go.Proofs.YtkkcnppgcnmikaaGreatDoor
open Go FM Go.Proofs
set_option maxRecDepth 10000
set_option maxHeartbeats 6400000
set_option linter.all false
theorem nextOf_spec (l : List Dl) (L : List Ac) (w : Str) (room : Int) (hl : DlL l) (hL : AcL L) : FnSpec Sy.P 88 [.sl false 6 (l.map dlA), .sl false 3 (L.map acA), .str w, .int room] [.sl false 6 (l.map dlA), .sl false 3 (L.map acA), .str w, .int room] (.tup [.int (nxK l L w room), .int (nxE l L w room)]) := by
  have hC := offerErr_spec l hl
  have hC2 := accErr_spec L hL
  have hCr := ofE_range l
  have hCr2 := acE_range L
  by_cases c1 : ofE l = 0
  · have hok := ofE_ok c1
    have hl20 := hok.len
    rw [c1] at hC
    by_cases c2 : acE L = 0
    · rw [c2] at hC2
      by_cases c3 : room < 0 ∨ 1000 < room
      · have e1 : nxE l L w room = 1 := by unfold nxE; rw [if_neg (not_not_intro c1), if_neg (not_not_intro c2), if_pos c3]
        rw [show nxK l L w room = 0 from if_neg (by rw [e1]; decide), e1]
        refine FnSpec.enter (S := Sy) 0 Tryz.func88 rfl rfl rfl Tryz.ntmps88 rfl rfl rfl rfl fun v0 => ?_
        (repeat' (first | refine w9x ?_ | refine w9p (hC) ?_ | refine w9p (hC2) ?_ | (refine w9c ?_ ?_ <;> intro _ <;> try exact w9o) | (refine w9d ?_ ?_ <;> intro _ <;> try exact w9s) | (refine w9q ?_; intro bnil hbnil)))
        all_goals first | (exfalso; omega) | exact .mk rfl rfl rfl
      · have e0 : nxE l L w room = if bF l L w room l.length < 0 then 4 else 0 := by unfold nxE; rw [if_neg (not_not_intro c1), if_neg (not_not_intro c2), if_neg c3]
        have hbr := bF_range (l := l) (L := L) (w := w) (room := room) l.length
        have hFB := bF_bB (l := l) (L := L) (w := w) (room := room) (fun d hd => by have := (hok.ok d hd).size; show 0 < d.2.2.2.2.2.1; omega)
        refine FnSpec.enter (S := Sy) 0 Tryz.func88 rfl rfl rfl Tryz.ntmps88 rfl rfl rfl rfl fun v0 => ?_
        (repeat' (first | refine w9x ?_ | refine w9p (hC) ?_ | refine w9p (hC2) ?_ | (refine w9c ?_ ?_ <;> intro _ <;> try exact w9o) | (refine w9d ?_ ?_ <;> intro _ <;> try exact w9s) | (refine w9q ?_; intro bnil hbnil)))
        all_goals first | (exfalso; omega) | skip
        refine CW.loop (fun m : Nat => [(0, .av (.sl false 6 (l.map dlA))), (1, .av (.sl false 3 (L.map acA))), (2, .av (.str w)), (3, .av (.int (room))), (11, .av (.int (bB l L w room m))), (12, .av (.int ((l.length : Int) - 1 - m)))]) (fun m => m ≤ l.length) (fun m => l.length - m) (0) ?_ (by exact w9a) ?_
        · exact Nat.zero_le _
        intro m hm
        by_cases hml : m < l.length
        · obtain ⟨k, hkd⟩ : ∃ k, k = l.length - (m + 1) := ⟨_, rfl⟩
          have hkl : k < l.length := by omega
          have hki : (l.length : Int) - 1 - m = (k : Int) := by omega
          have hkj : (l.length : Int) - 1 - ((m + 1 : Nat) : Int) = (k : Int) - 1 := by omega
          rw [hki]
          have hx : l[k]? = some l[k] := List.getElem?_eq_getElem hkl
          have hT := takeOf_spec L l[k] w hL (hl.s1 _ (List.getElem_mem hkl)) (hl.s2 _ (List.getElem_mem hkl))
          have hdk := hok.ok _ (List.getElem_mem hkl)
          have hb : bB l L w room (m + 1) = if elg L w room l[k] = true ∧ (bB l L w room m < 0 ∨ fee (at0 l (bB l L w room m)) * siz l[k] ≤ fee l[k] * siz (at0 l (bB l L w room m))) then (k : Int) else bB l L w room m := by
            rw [bB, ← hkd, getD_of hkl]
          have hbr := bB_range (l := l) (L := L) (w := w) (room := room) m hm
          have hsz := hdk.size
          have hfe := hdk.fee
          generalize l[k] = d at *
          generalize bB l L w room m = b at *
          unfold resA at hT
          by_cases s1 : d.2.2.2.2.2.1 ≤ room
          · have hlo : elg L w room d = decide (tkE L d w = 0) := by unfold elg; rw [decide_eq_true s1, Bool.true_and]
            rw [hlo] at hb
            by_cases s2 : tkE L d w = 0
            · rw [if_pos s2] at hT
              rw [decide_eq_true s2] at hb
              by_cases s3 : b < 0
              · rw [if_pos ⟨rfl, .inl s3⟩] at hb
                (repeat' (first | refine w9x ?_ | refine w9p (hT) ?_ | (refine w9c ?_ ?_ <;> intro _ <;> try exact w9o) | (refine w9d ?_ ?_ <;> intro _ <;> try exact w9s) | (refine w9q ?_; intro bnil hbnil)))
                all_goals first | (exfalso; omega) | skip
                refine ⟨m+1, ?_, by first | omega | (simp only; omega), by (repeat' (first | exact trivial | rfl | refine And.intro ?_ ?_ | exact int_congr (by omega) | exact int_congr (by dsimp only; omega) | exact ints_congr (by first | assumption | exact Eq.symm (by assumption)) | exact int_congr (by assumption) | exact bool_congr (by first | assumption | exact Eq.symm (by assumption)) | exact map_congr' (by first | assumption | exact Eq.symm (by assumption)) | exact int_congr hb.symm | exact int_congr hkj.symm))⟩
                all_goals omega
              · obtain ⟨i, rfl⟩ : ∃ i : Nat, b = (i : Int) := ⟨b.toNat, by omega⟩
                have hil : i < l.length := by omega
                have hxi : l[i]? = some l[i] := List.getElem?_eq_getElem hil
                have hdi := hok.ok _ (List.getElem_mem hil)
                have ha : at0 l (i : Int) = l[i] := by unfold at0; rw [Int.toNat_natCast, getD_of hil]
                rw [ha] at hb
                have z1 := hdi.size
                have z2 := hdi.fee
                generalize l[i] = a at *
                have m1 := mulB (x := d.2.2.2.2.1) (y := a.2.2.2.2.2.1) (a := 1000000) (b := 100) (by omega) (by omega)
                have m2 := mulB (x := a.2.2.2.2.1) (y := d.2.2.2.2.2.1) (a := 1000000) (b := 100) (by omega) (by omega)
                by_cases s4 : a.2.2.2.2.1 * d.2.2.2.2.2.1 ≤ d.2.2.2.2.1 * a.2.2.2.2.2.1
                · rw [if_pos ⟨rfl, .inr s4⟩] at hb
                  (repeat' (first | refine w9x ?_ | refine w9p (hT) ?_ | (refine w9c ?_ ?_ <;> intro _ <;> try exact w9o) | (refine w9d ?_ ?_ <;> intro _ <;> try exact w9s) | (refine w9q ?_; intro bnil hbnil)))
                  all_goals first | (exfalso; omega) | skip
                  refine ⟨m+1, ?_, by first | omega | (simp only; omega), by (repeat' (first | exact trivial | rfl | refine And.intro ?_ ?_ | exact int_congr (by omega) | exact int_congr (by dsimp only; omega) | exact ints_congr (by first | assumption | exact Eq.symm (by assumption)) | exact int_congr (by assumption) | exact bool_congr (by first | assumption | exact Eq.symm (by assumption)) | exact map_congr' (by first | assumption | exact Eq.symm (by assumption)) | exact int_congr hb.symm | exact int_congr hkj.symm))⟩
                  all_goals omega
                · rw [if_neg (fun h => h.2.elim (fun h => s3 h) s4)] at hb
                  (repeat' (first | refine w9x ?_ | refine w9p (hT) ?_ | (refine w9c ?_ ?_ <;> intro _ <;> try exact w9o) | (refine w9d ?_ ?_ <;> intro _ <;> try exact w9s) | (refine w9q ?_; intro bnil hbnil)))
                  all_goals first | (exfalso; omega) | skip
                  refine ⟨m+1, ?_, by first | omega | (simp only; omega), by (repeat' (first | exact trivial | rfl | refine And.intro ?_ ?_ | exact int_congr (by omega) | exact int_congr (by dsimp only; omega) | exact ints_congr (by first | assumption | exact Eq.symm (by assumption)) | exact int_congr (by assumption) | exact bool_congr (by first | assumption | exact Eq.symm (by assumption)) | exact map_congr' (by first | assumption | exact Eq.symm (by assumption)) | exact int_congr hb.symm | exact int_congr hkj.symm))⟩
                  all_goals omega
            · rw [if_neg s2] at hT
              rw [decide_eq_false s2, if_neg (fun h => by cases h.1)] at hb
              generalize tkE L d w = e at *
              (repeat' (first | refine w9x ?_ | refine w9p (hT) ?_ | (refine w9c ?_ ?_ <;> intro _ <;> try exact w9o) | (refine w9d ?_ ?_ <;> intro _ <;> try exact w9s) | (refine w9q ?_; intro bnil hbnil)))
              all_goals first | (exfalso; omega) | skip
              refine ⟨m+1, ?_, by first | omega | (simp only; omega), by (repeat' (first | exact trivial | rfl | refine And.intro ?_ ?_ | exact int_congr (by omega) | exact int_congr (by dsimp only; omega) | exact ints_congr (by first | assumption | exact Eq.symm (by assumption)) | exact int_congr (by assumption) | exact bool_congr (by first | assumption | exact Eq.symm (by assumption)) | exact map_congr' (by first | assumption | exact Eq.symm (by assumption)) | exact int_congr hb.symm | exact int_congr hkj.symm))⟩
              all_goals omega
          · have hlo : elg L w room d = false := by unfold elg; rw [decide_eq_false s1, Bool.false_and]
            rw [hlo, if_neg (fun h => by cases h.1)] at hb
            have s1 : room < d.2.2.2.2.2.1 := by omega
            by_cases s2 : tkE L d w = 0
            · rw [if_pos s2] at hT
              (repeat' (first | refine w9x ?_ | refine w9p (hT) ?_ | (refine w9c ?_ ?_ <;> intro _ <;> try exact w9o) | (refine w9d ?_ ?_ <;> intro _ <;> try exact w9s) | (refine w9q ?_; intro bnil hbnil)))
              all_goals first | (exfalso; omega) | skip
              refine ⟨m+1, ?_, by first | omega | (simp only; omega), by (repeat' (first | exact trivial | rfl | refine And.intro ?_ ?_ | exact int_congr (by omega) | exact int_congr (by dsimp only; omega) | exact ints_congr (by first | assumption | exact Eq.symm (by assumption)) | exact int_congr (by assumption) | exact bool_congr (by first | assumption | exact Eq.symm (by assumption)) | exact map_congr' (by first | assumption | exact Eq.symm (by assumption)) | exact int_congr hb.symm | exact int_congr hkj.symm))⟩
              all_goals omega
            · rw [if_neg s2] at hT
              generalize tkE L d w = e at *
              (repeat' (first | refine w9x ?_ | refine w9p (hT) ?_ | (refine w9c ?_ ?_ <;> intro _ <;> try exact w9o) | (refine w9d ?_ ?_ <;> intro _ <;> try exact w9s) | (refine w9q ?_; intro bnil hbnil)))
              all_goals first | (exfalso; omega) | skip
              refine ⟨m+1, ?_, by first | omega | (simp only; omega), by (repeat' (first | exact trivial | rfl | refine And.intro ?_ ?_ | exact int_congr (by omega) | exact int_congr (by dsimp only; omega) | exact ints_congr (by first | assumption | exact Eq.symm (by assumption)) | exact int_congr (by assumption) | exact bool_congr (by first | assumption | exact Eq.symm (by assumption)) | exact map_congr' (by first | assumption | exact Eq.symm (by assumption)) | exact int_congr hb.symm | exact int_congr hkj.symm))⟩
              all_goals omega
        · obtain rfl : l.length = m := by omega
          rw [hFB]
          by_cases c4 : bF l L w room l.length < 0
          · rw [if_pos c4] at e0
            rw [show nxK l L w room = 0 from if_neg (by rw [e0]; decide), e0]
            generalize bF l L w room l.length = b at *
            (repeat' (first | refine w9x ?_ | (refine w9c ?_ ?_ <;> intro _ <;> try exact w9o) | (refine w9d ?_ ?_ <;> intro _ <;> try exact w9s) | (refine w9q ?_; intro bnil hbnil)))
            all_goals first | (exfalso; omega) | exact .mk rfl rfl rfl
          · rw [if_neg c4] at e0
            rw [show nxK l L w room = bF l L w room l.length from if_pos e0, e0]
            generalize bF l L w room l.length = b at *
            (repeat' (first | refine w9x ?_ | (refine w9c ?_ ?_ <;> intro _ <;> try exact w9o) | (refine w9d ?_ ?_ <;> intro _ <;> try exact w9s) | (refine w9q ?_; intro bnil hbnil)))
            all_goals first | (exfalso; omega) | exact .mk rfl rfl rfl
    · have e1 : nxE l L w room = acE L := by unfold nxE; rw [if_neg (not_not_intro c1), if_pos c2]
      rw [show nxK l L w room = 0 from if_neg (by rw [e1]; exact c2), e1]
      generalize acE L = e at *
      refine FnSpec.enter (S := Sy) 0 Tryz.func88 rfl rfl rfl Tryz.ntmps88 rfl rfl rfl rfl fun v0 => ?_
      (repeat' (first | refine w9x ?_ | refine w9p (hC) ?_ | refine w9p (hC2) ?_ | (refine w9c ?_ ?_ <;> intro _ <;> try exact w9o) | (refine w9d ?_ ?_ <;> intro _ <;> try exact w9s) | (refine w9q ?_; intro bnil hbnil)))
      all_goals first | (exfalso; omega) | exact .mk rfl rfl rfl
  · have e1 : nxE l L w room = ofE l := by unfold nxE; rw [if_pos c1]
    rw [show nxK l L w room = 0 from if_neg (by rw [e1]; exact c1), e1]
    generalize ofE l = e at *
    refine FnSpec.enter (S := Sy) 0 Tryz.func88 rfl rfl rfl Tryz.ntmps88 rfl rfl rfl rfl fun v0 => ?_
    (repeat' (first | refine w9x ?_ | refine w9p (hC) ?_ | refine w9p (hC2) ?_ | (refine w9c ?_ ?_ <;> intro _ <;> try exact w9o) | (refine w9d ?_ ?_ <;> intro _ <;> try exact w9s) | (refine w9q ?_; intro bnil hbnil)))
    all_goals first | (exfalso; omega) | exact .mk rfl rfl rfl
end Go.Proofs.YtkkcnppgcnmikaaGreatDoor
