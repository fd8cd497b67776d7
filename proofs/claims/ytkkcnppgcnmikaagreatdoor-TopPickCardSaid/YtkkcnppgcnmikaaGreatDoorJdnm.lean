/- What is taken in: Build, by the program. -/
import Derived.Test.YtkkcnppgcnmikaaGreatDoorJanm
import Derived.Test.YtkkcnppgcnmikaaGreatDoorFsnm
namespace Go.Proofs.YtkkcnppgcnmikaaGreatDoor
open Go FM Go.Proofs
set_option maxRecDepth 10000
set_option maxHeartbeats 6400000
set_option linter.all false
theorem ofR_ne4 {l : List Dl} : ∀ (m k : Nat), ofR l m k ≠ 4
  | 0, k => by simp [ofR]
  | m + 1, k => by
    have h1 := ofR_ne4 (l := l) m (k + 1)
    have h2 := dlE_range (l.getD k d0)
    unfold ofR
    split
    · omega
    · split
      · decide
      · exact h1
theorem ofE_ne4 (l : List Dl) : ofE l ≠ 4 := by
  unfold ofE; split
  · decide
  · exact ofR_ne4 _ _
theorem nxE_04 {l : List Dl} {L : List Ac} {w : Str} {room : Int} (h : nxE l L w room = 0 ∨ nxE l L w room = 4) : ofE l = 0 ∧ acE L = 0 ∧ 0 ≤ room ∧ room ≤ 1000 := by
  have h1 := ofE_ne4 l
  have h2 := acE_range L
  by_cases c1 : ofE l ≠ 0
  · have e : nxE l L w room = ofE l := by unfold nxE; rw [if_pos c1]
    rw [e] at h; omega
  by_cases c2 : acE L ≠ 0
  · have e : nxE l L w room = acE L := by unfold nxE; rw [if_neg c1, if_pos c2]
    rw [e] at h; omega
  by_cases c3 : room < 0 ∨ 1000 < room
  · have e : nxE l L w room = 1 := by unfold nxE; rw [if_neg c1, if_neg c2, if_pos c3]
    rw [e] at h; omega
  exact ⟨Classical.not_not.1 c1, Classical.not_not.1 c2, by omega⟩
def bdE (l : List Dl) (L : List Ac) (w : Str) (room : Int) : Int := if nxE l L w room = 0 ∨ nxE l L w room = 4 then 0 else nxE l L w room
def bdT (l : List Dl) (L : List Ac) (w : Str) (room : Int) (f : Nat) : List Int := if bdE l L w room = 0 then (bld l w f L room).1 else []
def bdL (l : List Dl) (L : List Ac) (w : Str) (room : Int) (f : Nat) : List Ac := if bdE l L w room = 0 then (bld l w f L room).2 else []
theorem bld_step {l : List Dl} {w : Str} {f : Nat} {L : List Ac} {room : Int} {i : Nat} {d : Dl} (h : nxE l L w room = 0) (hk : nxK l L w room = (i : Int)) (hd : at0 l (nxK l L w room) = d) : bld l w (f + 1) L room = ((i : Int) :: (bld l w f (tkM L d w) (room - siz d)).1, (bld l w f (tkM L d w) (room - siz d)).2) := by
  rw [bld, if_pos h, hd, hk]
theorem bld_end {l : List Dl} {w : Str} {f : Nat} {L : List Ac} {room : Int} (h : nxE l L w room ≠ 0) : bld l w f L room = ([], L) := by
  cases f with
  | zero => rfl
  | succ f => rw [bld, if_neg h]
theorem bld_len {l : List Dl} {w : Str} : ∀ (f : Nat) (L : List Ac) (room : Int), 0 ≤ room → ((bld l w f L room).1.length : Int) ≤ room
  | 0, L, room, h => by simpa [bld] using h
  | f + 1, L, room, h => by
    by_cases c : nxE l L w room = 0
    · obtain ⟨_, _, _, i, hi, hk, hd, _, hs1, hs2⟩ := nx_at c
      rw [bld_step c hk hd]
      have := bld_len (l := l) (w := w) f (tkM L l[i] w) (room - siz l[i]) (by omega)
      rw [List.length_cons]; omega
    · rw [bld_end c]; simpa using h
theorem le_tup3 {a b c a' b' c' : AV} (h1 : AV.le a a') (h2 : AV.le b b') (h3 : AV.le c c') : AV.le (.tup [a, b, c]) (.tup [a', b', c']) := .tup rfl fun i x y hx hy => by
  match i with
  | 0 => simp only [List.getElem?_cons_zero, Option.some.injEq] at hx hy; subst hx; subst hy; exact h1
  | 1 => simp only [List.getElem?_cons_succ, List.getElem?_cons_zero, Option.some.injEq] at hx hy; subst hx; subst hy; exact h2
  | 2 => simp only [List.getElem?_cons_succ, List.getElem?_cons_zero, Option.some.injEq] at hx hy; subst hx; subst hy; exact h3
  | i + 3 => simp at hx
theorem noShA {l : List Ac} : NoSh (.sl true 3 (l.map acA)) := .sl fun y hy => by obtain ⟨z, _, rfl⟩ := List.mem_map.1 hy; exact noSh_aggL rfl
structure Bst (l : List Dl) (w : Str) (R : List Int × List Ac) (f : Nat) (t : List Int) (L : List Ac) (room : Int) : Prop where
  eq : R = (t ++ (bld l w f L room).1, (bld l w f L room).2)
  r0 : 0 ≤ room ∧ room ≤ 1000
  fu : room < f
  ln : (t.length : Int) + room ≤ 1000
  ac : acE L = 0
  al : AcL L
theorem build_spec (l : List Dl) (L : List Ac) (w : Str) (room : Int) (hl : DlL l) (hL : AcL L) : FnSpec Sy.P 19 [.sl false 6 (l.map dlA), .sl false 3 (L.map acA), .str w, .int room] [.sl false 6 (l.map dlA), .sl false 3 (L.map acA), .str w, .int room] (.tup [.sl true 1 ((bdT l L w room 1001).map .int), .sl true 3 ((bdL l L w room 1001).map acA), .int (bdE l L w room)]) := by
  have hN := next_spec l L w room hl hL
  unfold bdT bdL
  by_cases c : nxE l L w room = 0 ∨ nxE l L w room = 4
  · have e0 : bdE l L w room = 0 := if_pos c
    rw [e0, if_pos rfl, if_pos rfl]
    obtain ⟨g1, g2, g3⟩ := nxE_04 c
    have hok := ofE_ok g1
    have hl20 := hok.len
    have hL6 := (acE_ok g2).len
    have hB0 : Bst l w (bld l w 1001 L room) 1001 [] L room := ⟨by rw [List.nil_append], g3, by omega, by simp; omega, g2, hL⟩
    generalize bld l w 1001 L room = R at *
    refine FnSpec.enter (S := Sy) 0 Tryz.func19 rfl rfl rfl Tryz.ntmps19 rfl rfl rfl rfl fun v0 => ?_
    (repeat' (first | refine w9x ?_ | refine w9p (hN) ?_ | (refine w9c ?_ ?_ <;> intro _ <;> try exact w9o) | (refine w9d ?_ ?_ <;> intro _ <;> try exact w9s) | (refine w9q ?_; intro bnil hbnil)))
    all_goals first | (exfalso; omega) | skip
    all_goals refine CW.leS (x := .nil) 14 rfl (AV.le.nil (o := true) (c := 1)) ?_
    all_goals (
      refine CW.loop (fun z : Nat × List Int × List Ac × Int => [(0, .av (.sl false 6 (l.map dlA))), (2, .av (.str w)), (3, .av (.int (z.2.2.2))), (11, .av (.int (nxK l z.2.2.1 w z.2.2.2))), (12, .av (.int (nxE l z.2.2.1 w z.2.2.2))), (13, .av (.sl true 3 (z.2.2.1.map acA))), (14, .av (.sl true 1 ((z.2.1).map .int)))]) (fun z => Bst l w R z.1 z.2.1 z.2.2.1 z.2.2.2) (fun z => z.2.2.2.toNat) ((1001, [], L, room)) ?_ (by exact w9a) ?_)
    all_goals first | exact hB0 | skip
    all_goals (
      rintro ⟨f, t, M, r⟩ hS
      dsimp only at hS ⊢
      have hr := hS.r0
      have hfu := hS.fu
      have hln := hS.ln
      have heq := hS.eq
      have h04 := nxE_next (w := w) g1 hS.ac hr
      by_cases c2 : nxE l M w r = 0
      · obtain ⟨_, _, _, i, hi, hk, hd, htk, hs1, hs2⟩ := nx_at c2
        obtain ⟨f, rfl⟩ : ∃ f', f = f' + 1 := ⟨f - 1, by omega⟩
        rw [bld_step c2 hk hd] at heq
        have hx : l[i]? = some l[i] := List.getElem?_eq_getElem hi
        have hT := take_spec M l[i] w hS.al (hl.s1 _ (List.getElem_mem hi)) (hl.s2 _ (List.getElem_mem hi))
        have hac := (tkE_ok htk).2.2
        unfold resA at hT
        rw [if_pos htk] at hT
        have hN2 := next_spec l (tkM M l[i] w) w (r - siz l[i]) hl (tkM_L hS.al)
        have hS2 : Bst l w R f (t ++ [(i : Int)]) (tkM M l[i] w) (r - siz l[i]) := ⟨by rw [heq, List.append_assoc]; rfl, by omega, by omega, by rw [List.length_append, List.length_singleton]; omega, hac, tkM_L hS.al⟩
        have htl : t.length ≤ 1000 := by omega
        rw [hk, c2]
        generalize l[i] = d at *
        have hs1 : 1 ≤ d.2.2.2.2.2.1 := hs1
        have hs2 : d.2.2.2.2.2.1 ≤ r := hs2
        (repeat' (first | (refine J.callP hT rfl rfl (.cons (.br rfl AV.noConfusion (sh_map (fun _ => rfl))) (.cons (.pl rfl rfl) (.cons (.pl rfl rfl) .nil))) (fun _ => noSh_tup2 noShA .int) ?_) | refine w9x ?_ | refine w9p (hN2) ?_ | (refine w9c ?_ ?_ <;> intro _ <;> try exact w9o) | (refine w9d ?_ ?_ <;> intro _ <;> try exact w9s) | (refine w9q ?_; intro bnil hbnil)))
        all_goals first | (exfalso; omega) | skip
        refine ⟨(f, t ++ [(i : Int)], tkM M d w, r - d.2.2.2.2.2.1), ?_, by first | omega | (simp only; omega), by (repeat' (first | exact trivial | rfl | refine And.intro ?_ ?_ | exact int_congr (by omega) | exact int_congr (by dsimp only; omega) | exact ints_congr (by first | assumption | exact Eq.symm (by assumption)) | exact int_congr (by assumption) | exact bool_congr (by first | assumption | exact Eq.symm (by assumption)) | exact map_congr' (by first | assumption | exact Eq.symm (by assumption)) | exact ints_congr rfl | (refine congrArg (fun y => TV.av (AV.sl true 1 y)) ?_; rw [List.map_append]; rfl)))⟩
        all_goals first | exact hS2 | omega | (dsimp only; omega)
      · have c4 : nxE l M w r = 4 := by omega
        rw [bld_end c2, List.append_nil] at heq
        rw [c4, heq]
        (repeat' (first | refine w9x ?_ | (refine w9c ?_ ?_ <;> intro _ <;> try exact w9o) | (refine w9d ?_ ?_ <;> intro _ <;> try exact w9s) | (refine w9q ?_; intro bnil hbnil)))
        all_goals first | (exfalso; omega) | exact .mk rfl rfl rfl)
  · have e0 : bdE l L w room = nxE l L w room := if_neg c
    have hne : ¬ nxE l L w room = 0 := fun h => c (.inl h)
    have hne4 : ¬ nxE l L w room = 4 := fun h => c (.inr h)
    rw [e0, if_neg hne, if_neg hne]
    generalize nxE l L w room = e at *
    refine FnSpec.enter (S := Sy) 0 Tryz.func19 rfl rfl rfl Tryz.ntmps19 rfl rfl rfl rfl fun v0 => ?_
    (repeat' (first | refine w9x ?_ | refine w9p (hN) ?_ | (refine w9c ?_ ?_ <;> intro _ <;> try exact w9o) | (refine w9d ?_ ?_ <;> intro _ <;> try exact w9s) | (refine w9q ?_; intro bnil hbnil)))
    all_goals first | (exfalso; omega) | exact .mkL rfl (le_tup3 .nil .nil (.refl _)) rfl
end Go.Proofs.YtkkcnppgcnmikaaGreatDoor
