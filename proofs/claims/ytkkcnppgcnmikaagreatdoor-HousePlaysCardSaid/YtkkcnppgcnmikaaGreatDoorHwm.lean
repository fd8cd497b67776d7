/- Offers: Clean. -/
import Derived.Test.YtkkcnppgcnmikaaGreatDoorHtm
import Derived.Test.YtkkcnppgcnmikaaGreatDoorHum
namespace Go.Proofs.YtkkcnppgcnmikaaGreatDoor
open Go FM Go.Proofs
set_option maxRecDepth 10000
set_option maxHeartbeats 3200000
set_option linter.all false
def tA (d : Dl) (a : Ac) : Bool := decide (a.1 = d.1) && decide (d.2.2.1 < a.2.2.1)
/-- Is the offer too late? -/
def late (L : List Ac) (d : Dl) : Bool := decide (0 ≤ fidx (tA d) L 0)
theorem clean11_spec (a : Ac) (d : Dl) : FnSpec Sy.P 130 [acA a, .pt false [.str d.1, .str d.2.1, .int d.2.2.1, .int d.2.2.2.1, .int d.2.2.2.2.1, .int d.2.2.2.2.2.1]] [acA a, .pt false [.str d.1, .str d.2.1, .int d.2.2.1, .int d.2.2.2.1, .int d.2.2.2.2.1, .int d.2.2.2.2.2.1]] (.bool (tA d a)) := by
  unfold tA
  obtain ⟨s, t, n, m, f, z, u⟩ := d
  obtain ⟨s', m', n', u'⟩ := a
  refine FnSpec.enter (S := Sy) 0 Tryz.func130 rfl rfl rfl Tryz.ntmps130 rfl rfl rfl rfl fun v0 => ?_
  by_cases h : s' = s
  · rw [decide_eq_true h, Bool.true_and]
    (repeat' (first | refine w9x ?_ | (refine w9c ?_ ?_ <;> intro _ <;> try exact w9o) | (refine w9d ?_ ?_ <;> intro _ <;> try exact w9s) | (refine w9q ?_; intro bnil hbnil)))
    all_goals first | (exfalso; contradiction) | exact .mk rfl rfl rfl
  · rw [decide_eq_false h, Bool.false_and]
    (repeat' (first | refine w9x ?_ | (refine w9c ?_ ?_ <;> intro _ <;> try exact w9o) | (refine w9d ?_ ?_ <;> intro _ <;> try exact w9s) | (refine w9q ?_; intro bnil hbnil)))
    all_goals first | (exfalso; contradiction) | exact .mk rfl rfl rfl
theorem clean11_arg {d : Dl} {m : Nat} {v : Nat → Value} {N : Nat} {σ : St} {t q : Nat} (ht : FM.get σ t = .clo 130 [q]) (h1 : FM.get σ q = .av (.pt true [.str d.1, .str d.2.1, .int d.2.2.1, .int d.2.2.2.1, .int d.2.2.2.2.1, .int d.2.2.2.2.2.1])) : ArgOk (Sy.fixed m v) N σ (.tmp t) true (fnAc (fun _ => True) (tA d)) :=
  cloAc (zs := [.pt false [.str d.1, .str d.2.1, .int d.2.2.1, .int d.2.2.2.1, .int d.2.2.2.2.1, .int d.2.2.2.2.2.1]]) ht (.cons h1 rfl .nil) (clean11_spec ([], 0, 0, ()) d0).ok fun x _ => clean11_spec x d
theorem containsAc_spec (l : List Ac) (p : Ac → Bool) (hl : l.length ≤ 9223372036854775807) : FnSpec Sy.P 129 [.sl false 3 (l.map acA), fnAc (fun _ => True) p] [.sl false 3 (l.map acA), fnAc (fun _ => True) p] (.bool (decide (0 ≤ fidx p l 0))) := by
  have hI := indexAc_spec l (fun _ => True) p hl (fun _ _ => trivial)
  refine FnSpec.enter (S := Sy) 0 Tryz.func129 rfl rfl rfl Tryz.ntmps129 rfl rfl rfl rfl fun v0 => ?_
  (repeat' (first | refine w9x ?_ | refine w9p (hI) ?_ | (refine w9c ?_ ?_ <;> intro _ <;> try exact w9o) | (refine w9d ?_ ?_ <;> intro _ <;> try exact w9s) | (refine w9q ?_; intro bnil hbnil)))
  exact .mk rfl rfl rfl
theorem clean1_spec (d : Dl) (L : List Ac) (hl : L.length ≤ 9223372036854775807) : FnSpec Sy.P 128 [dlA d, .pt false [.sl false 3 (L.map acA)]] [dlA d, .pt false [.sl false 3 (L.map acA)]] (.bool (late L d)) := by
  have hI := containsAc_spec L (tA d) hl
  unfold late
  refine FnSpec.enter (S := Sy) 0 Tryz.func128 rfl rfl rfl Tryz.ntmps128 rfl rfl rfl rfl fun v0 => ?_
  (repeat' (first | ((with_reducible apply J.step); rfl; (exact s_mkf (caps := [2]) rfl rfl)) | refine w9x ?_ | ((with_reducible first | apply J.callP (hI) | apply J.callPQ (hI)); rfl; rfl; (repeat' (first | exact ArgsOk.nil | exact clean11_arg rfl rfl | apply ArgsOk.cons | exact ArgOk.pl rfl rfl | exact ArgOk.br rfl AV.noConfusion (by first | rfl | exact sh_int | exact sh_rows | exact sh_rowsO | exact sh_box | exact sh_map (fun _ => rfl)))); (first | rfl | exact gn0 | exact gnI)) | (refine w9c ?_ ?_ <;> intro _ <;> try exact w9o) | (refine w9d ?_ ?_ <;> intro _ <;> try exact w9s) | (refine w9q ?_; intro bnil hbnil)))
  exact .mk rfl rfl rfl
def clE (l : List Dl) (L : List Ac) : Int := if ofE l ≠ 0 then ofE l else if acE L ≠ 0 then acE L else 0
def clM (l : List Dl) (L : List Ac) : List Dl := l.filter fun d => !late L d
theorem sh_box1 {L : List Ac} : (AV.pt true [.sl false 3 (L.map acA)]).sh = .pt false [.sl false 3 (L.map acA)] := by
  show AV.pt false [AV.sl false 3 (AV.shL (L.map acA))] = _
  rw [shL_map acA L acA (fun _ => rfl)]
theorem clean1_argM {L : List Ac} {m : Nat} {v : Nat → Value} {N : Nat} {σ : St} {ms : List (Nat × Nat)} {i t q : Nat} (hl : L.length ≤ 9223372036854775807) (ht : FM.get σ t = .clo 128 [q]) (h1 : FM.get σ q = .av (.pt true [.sl false 3 (L.map acA)])) (hm : idxM ms q = none) : ArgM (Sy.fixed m v) N σ ms i (.tmp t) (fnDl (fun _ => True) (late L)) :=
  ArgM.clo (zs := [.pt false [.sl false 3 (L.map acA)]]) rfl ht (.cons h1 hm sh_box1 .nil) (clean1_spec d0 [] (by simp)).ok (fun ws hd => by obtain ⟨x, rfl, hx⟩ := hd; exact clean1_spec x L hl) (fun ws hd => by obtain ⟨x, rfl, hx⟩ := hd; rfl)
theorem clean_spec (l : List Dl) (L : List Ac) (hl : DlL l) (hL : AcL L) : FnSpec Sy.P 70 [.sl false 6 (l.map dlA), .sl false 3 (L.map acA)] [.sl false 6 (l.map dlA), .sl false 3 (L.map acA)] (resD (clM l L) (clE l L)) := by
  have hC := qcheck_spec l hl
  have hC2 := check_spec L hL
  have hCr := ofE_range l
  have hCr2 := acE_range L
  unfold clE resD clM
  by_cases c1 : ofE l = 0
  · have hok := ofE_ok c1
    rw [c1] at hC
    rw [if_neg (not_not_intro c1)]
    have hl20 := hok.len
    have hCl := cloneDl_spec l (by omega)
    by_cases c2 : acE L = 0
    · rw [if_neg (not_not_intro c2), if_pos rfl]
      rw [c2] at hC2
      have hDf := delf_spec l (fun _ => True) (late L) (by omega) (fun _ _ => trivial)
      refine FnSpec.enter (S := Sy) 0 Tryz.func70 rfl rfl rfl Tryz.ntmps70 rfl rfl rfl rfl fun v0 => ?_
      (repeat' (first | (refine J.callM1 hDf rfl rfl rfl rfl rfl (.cons (clean1_argM hL.len rfl rfl rfl) .nil) noSh_dls .dead ?_) | ((with_reducible apply J.step); rfl; (exact s_mkf (caps := [3]) rfl rfl)) | refine w9x ?_ | refine w9p (hC) ?_ | refine w9p (hC2) ?_ | refine w9p (hCl) ?_ | (refine w9c ?_ ?_ <;> intro _ <;> try exact w9o) | (refine w9d ?_ ?_ <;> intro _ <;> try exact w9s) | (refine w9q ?_; intro bnil hbnil)))
      all_goals first | (exfalso; omega) | exact .mk rfl rfl rfl
    · rw [if_pos c2, if_neg c2]
      generalize acE L = e at *
      refine FnSpec.enter (S := Sy) 0 Tryz.func70 rfl rfl rfl Tryz.ntmps70 rfl rfl rfl rfl fun v0 => ?_
      (repeat' (first | refine w9x ?_ | refine w9p (hC) ?_ | refine w9p (hC2) ?_ | (refine w9c ?_ ?_ <;> intro _ <;> try exact w9o) | (refine w9d ?_ ?_ <;> intro _ <;> try exact w9s) | (refine w9q ?_; intro bnil hbnil)))
      all_goals first | (exfalso; omega) | exact .mk rfl rfl rfl
  · rw [if_pos c1, if_neg c1]
    generalize ofE l = e at *
    refine FnSpec.enter (S := Sy) 0 Tryz.func70 rfl rfl rfl Tryz.ntmps70 rfl rfl rfl rfl fun v0 => ?_
    (repeat' (first | refine w9x ?_ | refine w9p (hC) ?_ | (refine w9c ?_ ?_ <;> intro _ <;> try exact w9o) | (refine w9d ?_ ?_ <;> intro _ <;> try exact w9s) | (refine w9q ?_; intro bnil hbnil)))
    all_goals first | (exfalso; omega) | exact .mk rfl rfl rfl
end Go.Proofs.YtkkcnppgcnmikaaGreatDoor

/- Offers: the reference's Clean. -/
namespace Go.Proofs.YtkkcnppgcnmikaaGreatDoor
open Go FM Go.Proofs
set_option maxRecDepth 10000
set_option maxHeartbeats 3200000
set_option linter.all false
def kp (L : List Ac) (d : Dl) : Bool := decide (fA L d.1 < 0 ∨ (L.getD (fA L d.1).toNat ([], 0, 0, ())).2.2.1 ≤ d.2.2.1)
theorem kp_late {L : List Ac} (h : AcOk L) (d : Dl) : kp L d = !late L d := by
  have hin : ∀ a ∈ L, ∀ b ∈ L, a.1 = b.1 → a = b := fun a ha b hb e => by
    obtain ⟨i, hi, rfl⟩ := List.mem_iff_getElem.1 ha
    obtain ⟨j, hj, rfl⟩ := List.mem_iff_getElem.1 hb
    rcases Nat.lt_trichotomy i j with c | c | c
    · have := List.pairwise_iff_getElem.1 h.srt i j hi hj c
      rw [e] at this; exact absurd this (List.lt_irrefl _)
    · subst c; rfl
    · have := List.pairwise_iff_getElem.1 h.srt j i hj hi c
      rw [e] at this; exact absurd this (List.lt_irrefl _)
  unfold kp late
  rw [← decide_not, decide_eq_decide]
  by_cases c : fA L d.1 < 0
  · have hno := fidx_none (p := fun a : Ac => decide (a.1 = d.1)) c
    refine ⟨fun _ h0 => ?_, fun _ => .inl c⟩
    obtain ⟨i, hi, _, hp, _⟩ := fidx_first h0
    have h2 := hno _ (List.getElem_mem hi)
    unfold tA at hp
    rw [h2, Bool.false_and] at hp; cases hp
  · obtain ⟨i, hi, e1, n1⟩ := fA_at (l := L) (s := d.1) (by omega)
    rw [e1, Int.toNat_natCast, List.getD_eq_getElem?_getD, List.getElem?_eq_getElem hi, Option.getD_some]
    constructor
    · rintro (h1 | h1) h0
      · omega
      · obtain ⟨j, hj, _, hp, _⟩ := fidx_first h0
        unfold tA at hp
        rw [Bool.and_eq_true, decide_eq_true_eq, decide_eq_true_eq] at hp
        have := hin _ (List.getElem_mem hj) _ (List.getElem_mem hi) (hp.1.trans n1.symm)
        rw [this] at hp; omega
    · intro h0
      refine .inr (Classical.byContradiction fun h1 => h0 ?_)
      refine fidx_some (List.getElem_mem hi) ?_
      unfold tA
      rw [decide_eq_true n1, decide_eq_true (by omega)]; rfl
theorem cleanOf_spec (l : List Dl) (L : List Ac) (hl : l.length ≤ 1000) (hL : L.length ≤ 9223372036854775807) : FnSpec Sy.P 43 [.sl false 6 (l.map dlA), .sl false 3 (L.map acA)] [.sl false 6 (l.map dlA), .sl false 3 (L.map acA)] (.sl true 6 ((l.filter (kp L)).map dlA)) := by
  refine FnSpec.enter (S := Sy) 0 Tryz.func43 rfl rfl rfl Tryz.ntmps43 rfl rfl rfl rfl fun v0 => ?_
  (repeat' (first | refine w9x ?_ | (refine w9c ?_ ?_ <;> intro _ <;> try exact w9o) | (refine w9d ?_ ?_ <;> intro _ <;> try exact w9s) | (refine w9q ?_; intro bnil hbnil)))
  refine CW.leS (x := .nil) 5 rfl (AV.le.nil (o := true) (c := 6)) ?_
  refine CW.loop (fun k : Nat => [(1, .av (.sl false 3 (L.map acA))), (5, .av (.sl true 6 (((l.take k).filter (kp L)).map dlA))), (9, .av (.sl false 6 (l.map dlA))), (10, .av (.int (l.length))), (11, .av (.int (k)))]) (fun k => k ≤ l.length) (fun k => l.length - k) (0) ?_ (by exact w9a) ?_
  · exact Nat.zero_le _
  intro k hk
  by_cases hlt : k < l.length
  · have hx : l[k]? = some l[k] := List.getElem?_eq_getElem hlt
    have hF := accOf_spec L l[k].1 hL
    have hfr := fA_range L l[k].1
    have hf : (l.take (k + 1)).filter (kp L) = (l.take k).filter (kp L) ++ (if kp L l[k] then [l[k]] else []) := by
      rw [List.take_succ_eq_append_getElem hlt, List.filter_append]
      congr 1
      cases hp : kp L l[k] <;> simp [hp]
    have hfl := List.length_filter_le (kp L) (l.take k)
    rw [List.length_take] at hfl
    generalize hd0 : l[k] = d at *
    by_cases c : fA L d.1 < 0
    · have hkp : kp L d = true := decide_eq_true (.inl c)
      rw [hkp, if_pos rfl] at hf
      (repeat' (first | refine w9x ?_ | refine w9p (hF) ?_ | (refine w9c ?_ ?_ <;> intro _ <;> try exact w9o) | (refine w9d ?_ ?_ <;> intro _ <;> try exact w9s) | (refine w9q ?_; intro bnil hbnil)))
      all_goals first | (exfalso; omega) | skip
      refine ⟨k+1, ?_, by first | omega | (simp only; omega), by (repeat' (first | exact trivial | rfl | refine And.intro ?_ ?_ | exact int_congr (by omega) | exact int_congr (by dsimp only; omega) | exact ints_congr (by first | assumption | exact Eq.symm (by assumption)) | exact int_congr (by assumption) | exact bool_congr (by first | assumption | exact Eq.symm (by assumption)) | exact map_congr' (by first | assumption | exact Eq.symm (by assumption)) | (refine (congrArg (fun z => TV.av (AV.sl true 6 z)) ?_); rw [hf, List.map_append]; rfl)))⟩
      all_goals omega
    · obtain ⟨i, hi, e1, n1⟩ := fA_at (l := L) (s := d.1) (by omega)
      have ga : L[i]? = some L[i] := List.getElem?_eq_getElem hi
      rw [e1] at hF
      have hkp : kp L d = decide (L[i].2.2.1 ≤ d.2.2.1) := by
        unfold kp
        rw [decide_eq_decide, e1, Int.toNat_natCast, List.getD_eq_getElem?_getD, ga, Option.getD_some]
        constructor
        · rintro (h | h)
          · omega
          · exact h
        · exact .inr
      generalize L[i] = a at *
      by_cases c2 : a.2.2.1 ≤ d.2.2.1
      · rw [hkp, decide_eq_true c2, if_pos rfl] at hf
        (repeat' (first | refine w9x ?_ | refine w9p (hF) ?_ | (refine w9c ?_ ?_ <;> intro _ <;> try exact w9o) | (refine w9d ?_ ?_ <;> intro _ <;> try exact w9s) | (refine w9q ?_; intro bnil hbnil)))
        all_goals first | (exfalso; omega) | skip
        refine ⟨k+1, ?_, by first | omega | (simp only; omega), by (repeat' (first | exact trivial | rfl | refine And.intro ?_ ?_ | exact int_congr (by omega) | exact int_congr (by dsimp only; omega) | exact ints_congr (by first | assumption | exact Eq.symm (by assumption)) | exact int_congr (by assumption) | exact bool_congr (by first | assumption | exact Eq.symm (by assumption)) | exact map_congr' (by first | assumption | exact Eq.symm (by assumption)) | (refine (congrArg (fun z => TV.av (AV.sl true 6 z)) ?_); rw [hf, List.map_append]; rfl)))⟩
        all_goals omega
      · rw [hkp, decide_eq_false c2, if_neg (by decide), List.append_nil] at hf
        (repeat' (first | refine w9x ?_ | refine w9p (hF) ?_ | (refine w9c ?_ ?_ <;> intro _ <;> try exact w9o) | (refine w9d ?_ ?_ <;> intro _ <;> try exact w9s) | (refine w9q ?_; intro bnil hbnil)))
        all_goals first | (exfalso; omega) | skip
        refine ⟨k+1, ?_, by first | omega | (simp only; omega), by exact w9a⟩
        all_goals omega
  · obtain rfl : k = l.length := by omega
    rw [List.take_length]
    (repeat' (first | refine w9x ?_ | (refine w9c ?_ ?_ <;> intro _ <;> try exact w9o) | (refine w9d ?_ ?_ <;> intro _ <;> try exact w9s) | (refine w9q ?_; intro bnil hbnil)))
    exact .mk rfl rfl rfl
end Go.Proofs.YtkkcnppgcnmikaaGreatDoor
