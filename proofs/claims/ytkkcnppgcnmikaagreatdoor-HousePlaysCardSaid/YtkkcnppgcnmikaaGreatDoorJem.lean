/- What is taken in: Build by the reference; Replay. -/
import Derived.Test.YtkkcnppgcnmikaaGreatDoorJcm
import Derived.Test.YtkkcnppgcnmikaaGreatDoorJdm
namespace Go.Proofs.YtkkcnppgcnmikaaGreatDoor
open Go FM Go.Proofs
set_option maxRecDepth 10000
set_option maxHeartbeats 6400000
set_option linter.all false
theorem buildOf_spec (l : List Dl) (w : Str) (hl : DlL l) : ∀ (f : Nat) (L : List Ac) (room : Int), room < f → AcL L → FnSpec Sy.P 41 [.sl false 6 (l.map dlA), .sl false 3 (L.map acA), .str w, .int room] [.sl false 6 (l.map dlA), .sl false 3 (L.map acA), .str w, .int room] (.tup [.sl true 1 ((bdT l L w room f).map .int), .sl false 3 ((bdL l L w room f).map acA), .int (bdE l L w room)]) := by
  intro f
  induction f with
  | zero =>
    intro L room hf hL
    have hN := nextOf_spec l L w room hl hL
    have hc : ¬ (nxE l L w room = 0 ∨ nxE l L w room = 4) := fun h => by have := (nxE_04 h).2.2.1; omega
    unfold bdT bdL
    have e0 : bdE l L w room = nxE l L w room := if_neg hc
    have hne : ¬ nxE l L w room = 0 := fun h => hc (.inl h)
    have hne4 : ¬ nxE l L w room = 4 := fun h => hc (.inr h)
    rw [e0, if_neg hne, if_neg hne]
    generalize nxE l L w room = e at *
    refine FnSpec.enter (S := Sy) 0 Tryz.func41 rfl rfl rfl Tryz.ntmps41 rfl rfl rfl rfl fun v0 => ?_
    (repeat' (first | refine w9x ?_ | refine w9p (hN) ?_ | (refine w9c ?_ ?_ <;> intro _ <;> try exact w9o) | (refine w9d ?_ ?_ <;> intro _ <;> try exact w9s) | (refine w9q ?_; intro bnil hbnil)))
    all_goals first | (exfalso; omega) | exact .mkL rfl (le_tup3 .nil .nil (.refl _)) rfl
  | succ f ih =>
    intro L room hf hL
    have hN := nextOf_spec l L w room hl hL
    unfold bdT bdL
    by_cases hc : nxE l L w room = 0 ∨ nxE l L w room = 4
    · have e0 : bdE l L w room = 0 := if_pos hc
      rw [e0, if_pos rfl, if_pos rfl]
      obtain ⟨g1, g2, g3⟩ := nxE_04 hc
      by_cases c2 : nxE l L w room = 0
      · obtain ⟨_, _, _, i, hi, hk, hd, htk, hs1, hs2⟩ := nx_at c2
        have hac := (tkE_ok htk).2.2
        have hx : l[i]? = some l[i] := List.getElem?_eq_getElem hi
        have hT := takeOf_spec L l[i] w hL (hl.s1 _ (List.getElem_mem hi)) (hl.s2 _ (List.getElem_mem hi))
        unfold resA at hT
        rw [if_pos htk] at hT
        have hI := ih (tkM L l[i] w) (room - siz l[i]) (by omega) (tkM_L hL)
        have hbl := bld_len (l := l) (w := w) f (tkM L l[i] w) (room - siz l[i]) (by omega)
        have e2 : bdE l (tkM L l[i] w) w (room - siz l[i]) = 0 := if_pos (nxE_next g1 hac (by omega))
        unfold bdT bdL at hI
        rw [e2, if_pos rfl, if_pos rfl] at hI
        rw [bld_step c2 hk hd]
        rw [hk, c2] at hN
        have hs1 : 1 ≤ l[i].2.2.2.2.2.1 := hs1
        have hs2 : l[i].2.2.2.2.2.1 ≤ room := hs2
        have hI : FnSpec Sy.P 41 [.sl false 6 (l.map dlA), .sl false 3 ((tkM L l[i] w).map acA), .str w, .int (room - l[i].2.2.2.2.2.1)] [.sl false 6 (l.map dlA), .sl false 3 ((tkM L l[i] w).map acA), .str w, .int (room - l[i].2.2.2.2.2.1)] _ := hI
        generalize bld l w f (tkM L l[i] w) (room - siz l[i]) = R at *
        generalize l[i] = d at *
        refine FnSpec.enter (S := Sy) 0 Tryz.func41 rfl rfl rfl Tryz.ntmps41 rfl rfl rfl rfl fun v0 => ?_
        (repeat' (first | (refine J.freezeO 13 rfl rfl (sh_map (fun _ => rfl)) rfl ?_) | refine w9x ?_ | refine w9p (hN) ?_ | refine w9p (hT) ?_ | refine w9p (hI) ?_ | (refine w9c ?_ ?_ <;> intro _ <;> try exact w9o) | (refine w9d ?_ ?_ <;> intro _ <;> try exact w9s) | (refine w9q ?_; intro bnil hbnil)))
        all_goals first | (exfalso; omega) | exact .mk rfl rfl rfl
      · have c4 : nxE l L w room = 4 := by omega
        rw [bld_end c2]
        rw [c4] at hN
        generalize nxK l L w room = k at *
        refine FnSpec.enter (S := Sy) 0 Tryz.func41 rfl rfl rfl Tryz.ntmps41 rfl rfl rfl rfl fun v0 => ?_
        (repeat' (first | refine w9x ?_ | refine w9p (hN) ?_ | (refine w9c ?_ ?_ <;> intro _ <;> try exact w9o) | (refine w9d ?_ ?_ <;> intro _ <;> try exact w9s) | (refine w9q ?_; intro bnil hbnil)))
        all_goals first | (exfalso; omega) | exact .mkL rfl (le_tup3 .nil (.refl _) (.refl _)) rfl
    · have e0 : bdE l L w room = nxE l L w room := if_neg hc
      have hne : ¬ nxE l L w room = 0 := fun h => hc (.inl h)
      have hne4 : ¬ nxE l L w room = 4 := fun h => hc (.inr h)
      rw [e0, if_neg hne, if_neg hne]
      generalize nxE l L w room = e at *
      refine FnSpec.enter (S := Sy) 0 Tryz.func41 rfl rfl rfl Tryz.ntmps41 rfl rfl rfl rfl fun v0 => ?_
      (repeat' (first | refine w9x ?_ | refine w9p (hN) ?_ | (refine w9c ?_ ?_ <;> intro _ <;> try exact w9o) | (refine w9d ?_ ?_ <;> intro _ <;> try exact w9s) | (refine w9q ?_; intro bnil hbnil)))
      all_goals first | (exfalso; omega) | exact .mkL rfl (le_tup3 .nil .nil (.refl _)) rfl
/-- Deals done one by one: what is left, how far it went, the error. -/
def rpl (w : Str) : List Dl → List Ac → Int → List Ac × Int × Int
  | [], L, i => (L, i, 0)
  | d :: r, L, i => if tkE L d w = 0 then rpl w r (tkM L d w) (i + 1) else ([], i, tkE L d w)
def rpE (l : List Dl) (L : List Ac) (w : Str) : List Ac × Int × Int := if acE L ≠ 0 then ([], 0, acE L) else rpl w l L 0
structure Rst (w : Str) (R : List Ac × Int × Int) (l : List Dl) (k : Nat) (L : List Ac) : Prop where
  le : k ≤ l.length
  eq : R = rpl w (l.drop k) L k
  al : AcL L
end Go.Proofs.YtkkcnppgcnmikaaGreatDoor
