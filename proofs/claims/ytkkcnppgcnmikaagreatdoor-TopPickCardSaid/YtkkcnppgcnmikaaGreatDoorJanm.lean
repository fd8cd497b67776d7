/- What is taken in, plain: the next offer, forward and backward. No program in sight. -/
import Derived.Test.YtkkcnppgcnmikaaGreatDoorHunm
import Derived.Test.YtkkcnppgcnmikaaGreatDoorHknm
namespace Go.Proofs.YtkkcnppgcnmikaaGreatDoor
open Go FM
set_option maxRecDepth 10000
set_option linter.all false
theorem mulB {x y a b : Int} (hx : 0 ≤ x ∧ x ≤ a) (hy : 0 ≤ y ∧ y ≤ b) : 0 ≤ x * y ∧ x * y ≤ a * b :=
  ⟨Int.mul_nonneg hx.1 hy.1, Int.mul_le_mul hx.2 hy.2 hy.1 (by omega)⟩
/-- The offer fits, and could be taken. -/
def elg (L : List Ac) (w : Str) (room : Int) (d : Dl) : Bool := decide (d.2.2.2.2.2.1 ≤ room) && decide (tkE L d w = 0)
abbrev fee (d : Dl) : Int := d.2.2.2.2.1
abbrev siz (d : Dl) : Int := d.2.2.2.2.2.1
abbrev at0 (l : List Dl) (b : Int) : Dl := l.getD b.toNat d0
def bF (l : List Dl) (L : List Ac) (w : Str) (room : Int) : Nat → Int
  | 0 => -1
  | k + 1 => if elg L w room (l.getD k d0) = true ∧ (bF l L w room k < 0 ∨ fee (at0 l (bF l L w room k)) * siz (l.getD k d0) < fee (l.getD k d0) * siz (at0 l (bF l L w room k))) then (k : Int) else bF l L w room k
/-- The best of the places of which P holds: the first of those. -/
def IsB (l : List Dl) (E : Dl → Bool) (P : Nat → Prop) (b : Int) : Prop :=
  (b = -1 ∧ ∀ j, P j → j < l.length → E (l.getD j d0) = false) ∨
  ∃ i : Nat, b = (i : Int) ∧ i < l.length ∧ P i ∧ E (l.getD i d0) = true ∧ ∀ j, P j → j < l.length → E (l.getD j d0) = true → fee (l.getD j d0) * siz (l.getD i d0) ≤ fee (l.getD i d0) * siz (l.getD j d0) ∧ (j < i → fee (l.getD j d0) * siz (l.getD i d0) < fee (l.getD i d0) * siz (l.getD j d0))
theorem IsB.one {l : List Dl} {E : Dl → Bool} {P : Nat → Prop} {b c : Int} (h : IsB l E P b) (h' : IsB l E P c) : b = c := by
  rcases h with ⟨rfl, h⟩ | ⟨i, rfl, hi, pi, ei, h⟩ <;> rcases h' with ⟨rfl, h'⟩ | ⟨j, rfl, hj, pj, ej, h'⟩
  · rfl
  · rw [h j pj hj] at ej; cases ej
  · rw [h' i pi hi] at ei; cases ei
  · have g1 := h j pj hj ej
    have g2 := h' i pi hi ei
    rcases Nat.lt_trichotomy i j with c | c | c
    · have := g2.2 c; omega
    · rw [c]
    · have := g1.2 c; omega
theorem bF_range {l : List Dl} {L : List Ac} {w : Str} {room : Int} : ∀ k, -1 ≤ bF l L w room k ∧ bF l L w room k < k
  | 0 => by simp [bF]
  | k + 1 => by
    have := bF_range (l := l) (L := L) (w := w) (room := room) k
    unfold bF; split <;> omega
/-- What is found is eligible. -/
theorem bF_elg {l : List Dl} {L : List Ac} {w : Str} {room : Int} : ∀ k, 0 ≤ bF l L w room k → elg L w room (at0 l (bF l L w room k)) = true
  | 0, h => by simp [bF] at h
  | k + 1, h => by
    unfold bF at h ⊢
    by_cases c : elg L w room (l.getD k d0) = true ∧ (bF l L w room k < 0 ∨ fee (at0 l (bF l L w room k)) * siz (l.getD k d0) < fee (l.getD k d0) * siz (at0 l (bF l L w room k)))
    · rw [if_pos c]
      show elg L w room (l.getD ((k : Int)).toNat d0) = true
      rw [Int.toNat_natCast]; exact c.1
    · rw [if_neg c] at h ⊢
      exact bF_elg k h
def nxE (l : List Dl) (L : List Ac) (w : Str) (room : Int) : Int :=
  if ofE l ≠ 0 then ofE l else if acE L ≠ 0 then acE L else if room < 0 ∨ 1000 < room then 1 else if bF l L w room l.length < 0 then 4 else 0
def nxK (l : List Dl) (L : List Ac) (w : Str) (room : Int) : Int := if nxE l L w room = 0 then bF l L w room l.length else 0
theorem tkE_ok {L : List Ac} {d : Dl} {w : Str} (h : tkE L d w = 0) : acE L = 0 ∧ dlE d = 0 ∧ acE (tkM L d w) = 0 := by
  unfold tkE at h
  by_cases c1 : acE L ≠ 0
  · rw [if_pos c1] at h; exact absurd h c1
  rw [if_neg c1] at h
  by_cases c2 : dlE d ≠ 0
  · rw [if_pos c2] at h; exact absurd h c2
  rw [if_neg c2] at h
  refine ⟨Classical.not_not.1 c1, Classical.not_not.1 c2, ?_⟩
  split at h
  · cases h
  split at h
  · cases h
  split at h
  · cases h
  by_cases c3 : acE (tkM L d w) ≠ 0
  · rw [if_pos c3] at h; cases h
  · exact Classical.not_not.1 c3
/-- What is taken in, one by one. -/
def bld (l : List Dl) (w : Str) : Nat → List Ac → Int → List Int × List Ac
  | 0, L, _ => ([], L)
  | f + 1, L, room => if nxE l L w room = 0 then (nxK l L w room :: (bld l w f (tkM L (at0 l (nxK l L w room)) w) (room - siz (at0 l (nxK l L w room)))).1, (bld l w f (tkM L (at0 l (nxK l L w room)) w) (room - siz (at0 l (nxK l L w room)))).2) else ([], L)
theorem nx_at {l : List Dl} {L : List Ac} {w : Str} {room : Int} (h : nxE l L w room = 0) : ofE l = 0 ∧ acE L = 0 ∧ (0 ≤ room ∧ room ≤ 1000) ∧ ∃ i, ∃ (hi : i < l.length), nxK l L w room = (i : Int) ∧ at0 l (nxK l L w room) = l[i] ∧ tkE L l[i] w = 0 ∧ 1 ≤ siz l[i] ∧ siz l[i] ≤ room := by
  have hk : nxK l L w room = bF l L w room l.length := if_pos h
  unfold nxE at h
  by_cases c1 : ofE l ≠ 0
  · rw [if_pos c1] at h; exact absurd h c1
  rw [if_neg c1] at h
  by_cases c2 : acE L ≠ 0
  · rw [if_pos c2] at h; exact absurd h c2
  rw [if_neg c2] at h
  by_cases c3 : room < 0 ∨ 1000 < room
  · rw [if_pos c3] at h; cases h
  rw [if_neg c3] at h
  by_cases c4 : bF l L w room l.length < 0
  · rw [if_pos c4] at h; cases h
  have hr := bF_range (l := l) (L := L) (w := w) (room := room) l.length
  have he := bF_elg (l := l) (L := L) (w := w) (room := room) l.length (by omega)
  obtain ⟨i, hi⟩ : ∃ i : Nat, bF l L w room l.length = (i : Int) := ⟨(bF l L w room l.length).toNat, by omega⟩
  have hil : i < l.length := by omega
  have hat : at0 l (nxK l L w room) = l[i] := by
    unfold at0
    rw [hk, hi, Int.toNat_natCast, List.getD_eq_getElem?_getD, List.getElem?_eq_getElem hil]; rfl
  rw [hk] at hat
  rw [hat] at he
  unfold elg at he
  rw [Bool.and_eq_true, decide_eq_true_eq, decide_eq_true_eq] at he
  rw [hk]
  refine ⟨Classical.not_not.1 c1, Classical.not_not.1 c2, by omega, i, hil, hi, hat, he.2, ?_, he.1⟩
  have := (dlE_ok (tkE_ok he.2).2.1).size
  exact this.1
theorem nxE_next {l : List Dl} {L : List Ac} {w : Str} {room : Int} (h1 : ofE l = 0) (h2 : acE L = 0) (h3 : 0 ≤ room ∧ room ≤ 1000) : nxE l L w room = 0 ∨ nxE l L w room = 4 := by
  unfold nxE
  rw [if_neg (not_not_intro h1), if_neg (not_not_intro h2), if_neg (by omega)]
  split
  · exact .inr rfl
  · exact .inl rfl
end Go.Proofs.YtkkcnppgcnmikaaGreatDoor

/- What is taken in: the next offer, by the program and by the reference. -/
namespace Go.Proofs.YtkkcnppgcnmikaaGreatDoor
open Go FM Go.Proofs
set_option maxRecDepth 10000
set_option maxHeartbeats 6400000
set_option linter.all false
theorem getD_of {l : List Dl} {k : Nat} (h : k < l.length) : l.getD k d0 = l[k] := by rw [List.getD_eq_getElem?_getD, List.getElem?_eq_getElem h]; rfl
theorem next_spec (l : List Dl) (L : List Ac) (w : Str) (room : Int) (hl : DlL l) (hL : AcL L) : FnSpec Sy.P 55 [.sl false 6 (l.map dlA), .sl false 3 (L.map acA), .str w, .int room] [.sl false 6 (l.map dlA), .sl false 3 (L.map acA), .str w, .int room] (.tup [.int (nxK l L w room), .int (nxE l L w room)]) := by
  have hC := qcheck_spec l hl
  have hC2 := check_spec L hL
  have hCr := ofE_range l
  have hCr2 := acE_range L
  by_cases c1 : ofE l = 0
  · have hok := ofE_ok c1
    have hl20 := hok.len
    rw [c1] at hC
    by_cases c2 : acE L = 0
    · rw [c2] at hC2
      by_cases c3 : room < 0 ∨ 1000 < room
      · have e1 : nxE l L w room = 1 := by unfold nxE; rw [if_neg (not_not_intro c1), if_neg (not_not_intro c2), if_pos c3]
        rw [show nxK l L w room = 0 from if_neg (by rw [e1]; decide), e1]
        refine FnSpec.enter (S := Sy) 0 Tryz.func55 rfl rfl rfl Tryz.ntmps55 rfl rfl rfl rfl fun v0 => ?_
        (repeat' (first | refine w9x ?_ | refine w9p (hC) ?_ | refine w9p (hC2) ?_ | (refine w9c ?_ ?_ <;> intro _ <;> try exact w9o) | (refine w9d ?_ ?_ <;> intro _ <;> try exact w9s) | (refine w9q ?_; intro bnil hbnil)))
        all_goals first | (exfalso; omega) | exact .mk rfl rfl rfl
      · have e0 : nxE l L w room = if bF l L w room l.length < 0 then 4 else 0 := by unfold nxE; rw [if_neg (not_not_intro c1), if_neg (not_not_intro c2), if_neg c3]
        have hbr := bF_range (l := l) (L := L) (w := w) (room := room) l.length
        refine FnSpec.enter (S := Sy) 0 Tryz.func55 rfl rfl rfl Tryz.ntmps55 rfl rfl rfl rfl fun v0 => ?_
        (repeat' (first | refine w9x ?_ | refine w9p (hC) ?_ | refine w9p (hC2) ?_ | (refine w9c ?_ ?_ <;> intro _ <;> try exact w9o) | (refine w9d ?_ ?_ <;> intro _ <;> try exact w9s) | (refine w9q ?_; intro bnil hbnil)))
        all_goals first | (exfalso; omega) | skip
        refine CW.loop (fun k : Nat => [(0, .av (.sl false 6 (l.map dlA))), (1, .av (.sl false 3 (L.map acA))), (2, .av (.str w)), (3, .av (.int (room))), (12, .av (.int (bF l L w room k))), (33, .av (.sl false 6 (l.map dlA))), (34, .av (.int (l.length))), (35, .av (.int (k)))]) (fun k => k ≤ l.length) (fun k => l.length - k) (0) ?_ (by exact w9a) ?_
        · exact Nat.zero_le _
        intro k hk
        by_cases hkl : k < l.length
        · have hx : l[k]? = some l[k] := List.getElem?_eq_getElem hkl
          have hT := take_spec L l[k] w hL (hl.s1 _ (List.getElem_mem hkl)) (hl.s2 _ (List.getElem_mem hkl))
          have hdk := hok.ok _ (List.getElem_mem hkl)
          have hb : bF l L w room (k + 1) = if elg L w room l[k] = true ∧ (bF l L w room k < 0 ∨ fee (at0 l (bF l L w room k)) * siz l[k] < fee l[k] * siz (at0 l (bF l L w room k))) then (k : Int) else bF l L w room k := by
            rw [bF, getD_of hkl]
          have hbr := bF_range (l := l) (L := L) (w := w) (room := room) k
          have hsz := hdk.size
          have hfe := hdk.fee
          generalize l[k] = d at *
          generalize bF l L w room k = b at *
          unfold resA at hT
          by_cases s1 : d.2.2.2.2.2.1 ≤ room
          · have hlo : elg L w room d = decide (tkE L d w = 0) := by unfold elg; rw [decide_eq_true s1, Bool.true_and]
            rw [hlo] at hb
            by_cases s2 : tkE L d w = 0
            · rw [if_pos s2] at hT
              rw [decide_eq_true s2] at hb
              by_cases s3 : b < 0
              · rw [if_pos ⟨rfl, .inl s3⟩] at hb
                (repeat' (first | refine w9x ?_ | refine w9p (hT) ?_ | (refine w9c ?_ ?_ <;> intro _ <;> try exact w9o) | (refine w9d ?_ ?_ <;> intro _ <;> try exact w9s) | (refine w9q ?_; intro bnil hbnil)))
                all_goals first | (exfalso; omega) | skip
                refine ⟨k+1, ?_, by first | omega | (simp only; omega), by (repeat' (first | exact trivial | rfl | refine And.intro ?_ ?_ | exact int_congr (by omega) | exact int_congr (by dsimp only; omega) | exact ints_congr (by first | assumption | exact Eq.symm (by assumption)) | exact int_congr (by assumption) | exact bool_congr (by first | assumption | exact Eq.symm (by assumption)) | exact map_congr' (by first | assumption | exact Eq.symm (by assumption)) | exact int_congr hb.symm))⟩
                all_goals omega
              · obtain ⟨i, rfl⟩ : ∃ i : Nat, b = (i : Int) := ⟨b.toNat, by omega⟩
                have hil : i < l.length := by omega
                have hxi : l[i]? = some l[i] := List.getElem?_eq_getElem hil
                have hdi := hok.ok _ (List.getElem_mem hil)
                have ha : at0 l (i : Int) = l[i] := by unfold at0; rw [Int.toNat_natCast, getD_of hil]
                rw [ha] at hb
                have z1 := hdi.size
                have z2 := hdi.fee
                generalize l[i] = a at *
                have m1 := mulB (x := d.2.2.2.2.1) (y := a.2.2.2.2.2.1) (a := 1000000) (b := 100) (by omega) (by omega)
                have m2 := mulB (x := a.2.2.2.2.1) (y := d.2.2.2.2.2.1) (a := 1000000) (b := 100) (by omega) (by omega)
                by_cases s4 : a.2.2.2.2.1 * d.2.2.2.2.2.1 < d.2.2.2.2.1 * a.2.2.2.2.2.1
                · rw [if_pos ⟨rfl, .inr s4⟩] at hb
                  (repeat' (first | refine w9x ?_ | refine w9p (hT) ?_ | (refine w9c ?_ ?_ <;> intro _ <;> try exact w9o) | (refine w9d ?_ ?_ <;> intro _ <;> try exact w9s) | (refine w9q ?_; intro bnil hbnil)))
                  all_goals first | (exfalso; omega) | skip
                  refine ⟨k+1, ?_, by first | omega | (simp only; omega), by (repeat' (first | exact trivial | rfl | refine And.intro ?_ ?_ | exact int_congr (by omega) | exact int_congr (by dsimp only; omega) | exact ints_congr (by first | assumption | exact Eq.symm (by assumption)) | exact int_congr (by assumption) | exact bool_congr (by first | assumption | exact Eq.symm (by assumption)) | exact map_congr' (by first | assumption | exact Eq.symm (by assumption)) | exact int_congr hb.symm))⟩
                  all_goals omega
                · rw [if_neg (fun h => h.2.elim (fun h => s3 h) s4)] at hb
                  (repeat' (first | refine w9x ?_ | refine w9p (hT) ?_ | (refine w9c ?_ ?_ <;> intro _ <;> try exact w9o) | (refine w9d ?_ ?_ <;> intro _ <;> try exact w9s) | (refine w9q ?_; intro bnil hbnil)))
                  all_goals first | (exfalso; omega) | skip
                  refine ⟨k+1, ?_, by first | omega | (simp only; omega), by (repeat' (first | exact trivial | rfl | refine And.intro ?_ ?_ | exact int_congr (by omega) | exact int_congr (by dsimp only; omega) | exact ints_congr (by first | assumption | exact Eq.symm (by assumption)) | exact int_congr (by assumption) | exact bool_congr (by first | assumption | exact Eq.symm (by assumption)) | exact map_congr' (by first | assumption | exact Eq.symm (by assumption)) | exact int_congr hb.symm))⟩
                  all_goals omega
            · rw [if_neg s2] at hT
              rw [decide_eq_false s2, if_neg (fun h => by cases h.1)] at hb
              generalize tkE L d w = e at *
              (repeat' (first | refine w9x ?_ | refine w9p (hT) ?_ | (refine w9c ?_ ?_ <;> intro _ <;> try exact w9o) | (refine w9d ?_ ?_ <;> intro _ <;> try exact w9s) | (refine w9q ?_; intro bnil hbnil)))
              all_goals first | (exfalso; omega) | skip
              refine ⟨k+1, ?_, by first | omega | (simp only; omega), by (repeat' (first | exact trivial | rfl | refine And.intro ?_ ?_ | exact int_congr (by omega) | exact int_congr (by dsimp only; omega) | exact ints_congr (by first | assumption | exact Eq.symm (by assumption)) | exact int_congr (by assumption) | exact bool_congr (by first | assumption | exact Eq.symm (by assumption)) | exact map_congr' (by first | assumption | exact Eq.symm (by assumption)) | exact int_congr hb.symm))⟩
              all_goals omega
          · have hlo : elg L w room d = false := by unfold elg; rw [decide_eq_false s1, Bool.false_and]
            rw [hlo, if_neg (fun h => by cases h.1)] at hb
            have s1 : room < d.2.2.2.2.2.1 := by omega
            (repeat' (first | refine w9x ?_ | (refine w9c ?_ ?_ <;> intro _ <;> try exact w9o) | (refine w9d ?_ ?_ <;> intro _ <;> try exact w9s) | (refine w9q ?_; intro bnil hbnil)))
            all_goals first | (exfalso; omega) | skip
            refine ⟨k+1, ?_, by first | omega | (simp only; omega), by (repeat' (first | exact trivial | rfl | refine And.intro ?_ ?_ | exact int_congr (by omega) | exact int_congr (by dsimp only; omega) | exact ints_congr (by first | assumption | exact Eq.symm (by assumption)) | exact int_congr (by assumption) | exact bool_congr (by first | assumption | exact Eq.symm (by assumption)) | exact map_congr' (by first | assumption | exact Eq.symm (by assumption)) | exact int_congr hb.symm))⟩
            all_goals omega
        · obtain rfl : l.length = k := by omega
          by_cases c4 : bF l L w room l.length < 0
          · rw [if_pos c4] at e0
            rw [show nxK l L w room = 0 from if_neg (by rw [e0]; decide), e0]
            generalize bF l L w room l.length = b at *
            (repeat' (first | refine w9x ?_ | (refine w9c ?_ ?_ <;> intro _ <;> try exact w9o) | (refine w9d ?_ ?_ <;> intro _ <;> try exact w9s) | (refine w9q ?_; intro bnil hbnil)))
            all_goals first | (exfalso; omega) | exact .mk rfl rfl rfl
          · rw [if_neg c4] at e0
            rw [show nxK l L w room = bF l L w room l.length from if_pos e0, e0]
            generalize bF l L w room l.length = b at *
            (repeat' (first | refine w9x ?_ | (refine w9c ?_ ?_ <;> intro _ <;> try exact w9o) | (refine w9d ?_ ?_ <;> intro _ <;> try exact w9s) | (refine w9q ?_; intro bnil hbnil)))
            all_goals first | (exfalso; omega) | exact .mk rfl rfl rfl
    · have e1 : nxE l L w room = acE L := by unfold nxE; rw [if_neg (not_not_intro c1), if_pos c2]
      rw [show nxK l L w room = 0 from if_neg (by rw [e1]; exact c2), e1]
      generalize acE L = e at *
      refine FnSpec.enter (S := Sy) 0 Tryz.func55 rfl rfl rfl Tryz.ntmps55 rfl rfl rfl rfl fun v0 => ?_
      (repeat' (first | refine w9x ?_ | refine w9p (hC) ?_ | refine w9p (hC2) ?_ | (refine w9c ?_ ?_ <;> intro _ <;> try exact w9o) | (refine w9d ?_ ?_ <;> intro _ <;> try exact w9s) | (refine w9q ?_; intro bnil hbnil)))
      all_goals first | (exfalso; omega) | exact .mk rfl rfl rfl
  · have e1 : nxE l L w room = ofE l := by unfold nxE; rw [if_pos c1]
    rw [show nxK l L w room = 0 from if_neg (by rw [e1]; exact c1), e1]
    generalize ofE l = e at *
    refine FnSpec.enter (S := Sy) 0 Tryz.func55 rfl rfl rfl Tryz.ntmps55 rfl rfl rfl rfl fun v0 => ?_
    (repeat' (first | refine w9x ?_ | refine w9p (hC) ?_ | refine w9p (hC2) ?_ | (refine w9c ?_ ?_ <;> intro _ <;> try exact w9o) | (refine w9d ?_ ?_ <;> intro _ <;> try exact w9s) | (refine w9q ?_; intro bnil hbnil)))
    all_goals first | (exfalso; omega) | exact .mk rfl rfl rfl
end Go.Proofs.YtkkcnppgcnmikaaGreatDoor
