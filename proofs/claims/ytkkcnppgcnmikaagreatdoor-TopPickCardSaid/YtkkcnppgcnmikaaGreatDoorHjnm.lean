/- Accounts: Take. -/
import Derived.Test.YtkkcnppgcnmikaaGreatDoorHgnm
import Derived.Test.YtkkcnppgcnmikaaGreatDoorHhnm
namespace Go.Proofs.YtkkcnppgcnmikaaGreatDoor
open Go FM Go.Proofs
set_option maxRecDepth 10000
set_option maxHeartbeats 3200000
set_option linter.all false
theorem tk_facts {l : List Ac} (h : l.Pairwise fun a b => a.1 < b.1) {d : Dl} {w : Str} {i j k : Nat} (hi : i < l.length) (hj : j < l.length) (hk : k < l.length) {a0 aj ak : Ac} (ha : l[i]? = some a0) (haj : l[j]? = some aj) (hak : l[k]? = some ak) (ei : a0.1 = d.1) (ej : aj.1 = d.2.1) (ek : ak.1 = w) :
    let X1 := (l.set i (a0.1, a0.2.1 - (d.2.2.2.1 + d.2.2.2.2.1), a0.2.2.1, ())).set i (a0.1, a0.2.1 - (d.2.2.2.1 + d.2.2.2.2.1), a0.2.2.1 + 1, ())
    let b := if1 d aj
    let X2 := X1.set j (b.1, b.2.1 + d.2.2.2.1, b.2.2.1, ())
    let c := if2 d (if1 d ak)
    let X3 := X2.set k (c.1, c.2.1 + d.2.2.2.2.1, c.2.2.1, ())
    (l.set i (a0.1, a0.2.1 - (d.2.2.2.1 + d.2.2.2.2.1), a0.2.2.1, ()))[i]? = some (a0.1, a0.2.1 - (d.2.2.2.1 + d.2.2.2.2.1), a0.2.2.1, ()) ∧ X1[j]? = some b ∧ X2[k]? = some c ∧ X3 = tkM l d w := by
  intro X1 b X2 c X3
  obtain ⟨_, ha'⟩ := List.getElem?_eq_some_iff.1 ha
  obtain ⟨_, haj'⟩ := List.getElem?_eq_some_iff.1 haj
  obtain ⟨_, hak'⟩ := List.getElem?_eq_some_iff.1 hak
  have e1 : X1 = l.map (if1 d) := by
    show (l.set i _).set i _ = _
    rw [List.set_set]
    have := set_name h hi (pay1 d)
    rw [ha', ei] at this
    exact this
  have s1 : X1.Pairwise fun a b => a.1 < b.1 := by rw [e1]; exact map_srt h fun a => if1_nm
  have g1 : X1[j]? = some b := by rw [e1, List.getElem?_map, haj]; rfl
  have hj1 : j < X1.length := by rw [e1, List.length_map]; exact hj
  have e2 : X2 = X1.map (if2 d) := by
    have := set_name s1 hj1 (pay2 d)
    have hb : X1[j] = b := by obtain ⟨_, h⟩ := List.getElem?_eq_some_iff.1 g1; exact h
    rw [hb] at this
    have hn : b.1 = d.2.1 := by show (if1 d aj).1 = _; rw [if1_nm, ej]
    rw [hn] at this
    exact this
  have s2 : X2.Pairwise fun a b => a.1 < b.1 := by rw [e2]; exact map_srt s1 fun a => if2_nm
  have g2 : X2[k]? = some c := by rw [e2, e1, List.getElem?_map, List.getElem?_map, hak]; rfl
  have hk2 : k < X2.length := by rw [e2, e1, List.length_map, List.length_map]; exact hk
  refine ⟨by rw [List.getElem?_set, if_pos rfl, if_pos hi], g1, g2, ?_⟩
  have := set_name s2 hk2 (pay3 d)
  have hc : X2[k] = c := by obtain ⟨_, h⟩ := List.getElem?_eq_some_iff.1 g2; exact h
  rw [hc] at this
  have hn : c.1 = w := by show (if2 d (if1 d ak)).1 = _; rw [if2_nm, if1_nm, ek]
  rw [hn] at this
  show X2.set k (pay3 d c) = _
  rw [this, e2, e1, List.map_map, List.map_map]
  rfl
theorem getD_at {l : List Ac} {i : Nat} {a : Ac} (h : l[i]? = some a) : l.getD i ([], 0, 0, ()) = a := by rw [List.getD_eq_getElem?_getD, h]; rfl
/-- What a call answers that may refuse. -/
def resA (l : List Ac) (e : Int) : AV := if e = 0 then .tup [.sl true 3 (l.map acA), .int 0] else .tup [.nil, .int e]
theorem take_spec (l : List Ac) (d : Dl) (w : Str) (hL : AcL l) (h1 : d.1.length ≤ 9223372036854775807) (h2 : d.2.1.length ≤ 9223372036854775807) : FnSpec Sy.P 56 [.sl false 3 (l.map acA), dlA d, .str w] [.sl false 3 (l.map acA), dlA d, .str w] (resA (tkM l d w) (tkE l d w)) := by
  have hC := check_spec l hL
  have hR := right_spec d h1 h2
  have hCr := acE_range l
  have hRr := dlE_range d
  unfold tkE resA
  by_cases c1 : acE l = 0
  · have hok := acE_ok c1
    rw [c1] at hC
    rw [if_neg (not_not_intro c1)]
    by_cases c2 : dlE d = 0
    · have hdk := dlE_ok c2
      rw [c2] at hR
      rw [if_neg (not_not_intro c2)]
      have hl6 := hok.len
      have hF1 := find_spec l d.1 hL.len
      have hF2 := find_spec l d.2.1 hL.len
      have hF3 := find_spec l w hL.len
      have r1 := fA_range l d.1
      have r2 := fA_range l d.2.1
      have r3 := fA_range l w
      have k1 := hdk.num; have k2 := hdk.much; have k3 := hdk.fee
      by_cases c3 : fA l d.1 < 0 ∨ fA l d.2.1 < 0 ∨ fA l w < 0
      · rw [if_pos c3, if_neg (by decide)]
        generalize fA l d.1 = x1 at *
        generalize fA l d.2.1 = x2 at *
        generalize fA l w = x3 at *
        refine FnSpec.enter (S := Sy) 0 Tryz.func56 rfl rfl rfl Tryz.ntmps56 rfl rfl rfl rfl fun v0 => ?_
        (repeat' (first | refine w9x ?_ | refine w9p (hC) ?_ | refine w9p (hR) ?_ | refine w9p (hF1) ?_ | refine w9p (hF2) ?_ | refine w9p (hF3) ?_ | (refine w9c ?_ ?_ <;> intro _ <;> try exact w9o) | (refine w9d ?_ ?_ <;> intro _ <;> try exact w9s) | (refine w9q ?_; intro bnil hbnil)))
        all_goals first | (exfalso; omega) | exact .mk rfl rfl rfl
      rw [if_neg c3]
      obtain ⟨i, hi, e1, n1⟩ := fA_at (l := l) (s := d.1) (by omega)
      obtain ⟨j, hj, e2, n2⟩ := fA_at (l := l) (s := d.2.1) (by omega)
      obtain ⟨k, hk, e3, n3⟩ := fA_at (l := l) (s := w) (by omega)
      have ga : l[i]? = some l[i] := List.getElem?_eq_getElem hi
      have gj : l[j]? = some l[j] := List.getElem?_eq_getElem hj
      have gk : l[k]? = some l[k] := List.getElem?_eq_getElem hk
      rw [e1] at hF1 ⊢
      rw [e2] at hF2
      rw [e3] at hF3
      rw [Int.toNat_natCast, getD_at ga]
      have m1 := hok.mo _ (List.getElem_mem hi)
      have m2 := hok.nu _ (List.getElem_mem hi)
      have m3 := hok.mo _ (List.getElem_mem hj)
      have m4 := hok.mo _ (List.getElem_mem hk)
      obtain ⟨f1, f2, f3, f4⟩ := tk_facts hok.srt hi hj hk ga gj gk n1 n2 n3
      generalize l[i] = a at *
      generalize l[j] = aj at *
      generalize l[k] = ak at *
      by_cases c4 : d.2.2.1 ≠ a.2.2.1
      · rw [if_pos c4, if_neg (by decide)]
        refine FnSpec.enter (S := Sy) 0 Tryz.func56 rfl rfl rfl Tryz.ntmps56 rfl rfl rfl rfl fun v0 => ?_
        (repeat' (first | refine w9x ?_ | refine w9p (hC) ?_ | refine w9p (hR) ?_ | refine w9p (hF1) ?_ | refine w9p (hF2) ?_ | refine w9p (hF3) ?_ | (refine w9c ?_ ?_ <;> intro _ <;> try exact w9o) | (refine w9d ?_ ?_ <;> intro _ <;> try exact w9s) | (refine w9q ?_; intro bnil hbnil)))
        all_goals first | (exfalso; omega) | exact .mk rfl rfl rfl
      rw [if_neg c4]
      by_cases c5 : a.2.1 < d.2.2.2.1 + d.2.2.2.2.1
      · rw [if_pos c5, if_neg (by decide)]
        refine FnSpec.enter (S := Sy) 0 Tryz.func56 rfl rfl rfl Tryz.ntmps56 rfl rfl rfl rfl fun v0 => ?_
        (repeat' (first | refine w9x ?_ | refine w9p (hC) ?_ | refine w9p (hR) ?_ | refine w9p (hF1) ?_ | refine w9p (hF2) ?_ | refine w9p (hF3) ?_ | (refine w9c ?_ ?_ <;> intro _ <;> try exact w9o) | (refine w9d ?_ ?_ <;> intro _ <;> try exact w9s) | (refine w9q ?_; intro bnil hbnil)))
        all_goals first | (exfalso; omega) | exact .mk rfl rfl rfl
      rw [if_neg c5]
      have b1 : -2000000 ≤ (if1 d aj).2.1 ∧ (if1 d aj).2.1 ≤ 1000000 := by unfold if1 pay1; split <;> ((try dsimp only); omega)
      have b2 : -2000000 ≤ (if2 d (if1 d ak)).2.1 ∧ (if2 d (if1 d ak)).2.1 ≤ 2000000 := by
        have : -2000000 ≤ (if1 d ak).2.1 ∧ (if1 d ak).2.1 ≤ 1000000 := by unfold if1 pay1; split <;> ((try dsimp only); omega)
        unfold if2 pay2; split <;> ((try dsimp only); omega)
      generalize if1 d aj = b at *
      generalize if2 d (if1 d ak) = c at *

      have hCl := cloneAc_spec l (by omega)
      have hC2 := check_spec (tkM l d w) (tkM_L hL)
      have hC2r := acE_range (tkM l d w)
      by_cases c6 : acE (tkM l d w) ≠ 0
      · rw [if_pos c6, if_neg (by decide)]
        generalize acE (tkM l d w) = e6 at *
        rw [← f4] at hC2
        refine FnSpec.enter (S := Sy) 0 Tryz.func56 rfl rfl rfl Tryz.ntmps56 rfl rfl rfl rfl fun v0 => ?_
        (repeat' (first | ((with_reducible apply J.eff); rfl; (exact e_stMo rfl rfl (by assumption) rfl rfl rfl)) | ((with_reducible apply J.eff); rfl; (exact e_stNu rfl rfl (by assumption) rfl rfl rfl)) | refine w9x ?_ | refine w9p (hC) ?_ | refine w9p (hR) ?_ | refine w9p (hF1) ?_ | refine w9p (hF2) ?_ | refine w9p (hF3) ?_ | refine w9p (hCl) ?_ | refine w9p (hC2) ?_ | (refine w9c ?_ ?_ <;> intro _ <;> try exact w9o) | (refine w9d ?_ ?_ <;> intro _ <;> try exact w9s) | (refine w9q ?_; intro bnil hbnil)))
        all_goals first | (exfalso; omega) | exact .mk rfl rfl rfl
      · rw [if_neg c6, if_pos rfl]
        rw [Classical.not_not.1 c6] at hC2
        rw [← f4] at hC2 ⊢
        refine FnSpec.enter (S := Sy) 0 Tryz.func56 rfl rfl rfl Tryz.ntmps56 rfl rfl rfl rfl fun v0 => ?_
        (repeat' (first | ((with_reducible apply J.eff); rfl; (exact e_stMo rfl rfl (by assumption) rfl rfl rfl)) | ((with_reducible apply J.eff); rfl; (exact e_stNu rfl rfl (by assumption) rfl rfl rfl)) | refine w9x ?_ | refine w9p (hC) ?_ | refine w9p (hR) ?_ | refine w9p (hF1) ?_ | refine w9p (hF2) ?_ | refine w9p (hF3) ?_ | refine w9p (hCl) ?_ | refine w9p (hC2) ?_ | (refine w9c ?_ ?_ <;> intro _ <;> try exact w9o) | (refine w9d ?_ ?_ <;> intro _ <;> try exact w9s) | (refine w9q ?_; intro bnil hbnil)))
        all_goals first | (exfalso; omega) | exact .mk rfl rfl rfl
    · rw [if_pos c2, if_neg c2]
      generalize dlE d = e at *
      refine FnSpec.enter (S := Sy) 0 Tryz.func56 rfl rfl rfl Tryz.ntmps56 rfl rfl rfl rfl fun v0 => ?_
      (repeat' (first | refine w9x ?_ | refine w9p (hC) ?_ | refine w9p (hR) ?_ | (refine w9c ?_ ?_ <;> intro _ <;> try exact w9o) | (refine w9d ?_ ?_ <;> intro _ <;> try exact w9s) | (refine w9q ?_; intro bnil hbnil)))
      all_goals first | (exfalso; omega) | exact .mk rfl rfl rfl
  · rw [if_pos c1, if_neg c1]
    generalize acE l = e at *
    refine FnSpec.enter (S := Sy) 0 Tryz.func56 rfl rfl rfl Tryz.ntmps56 rfl rfl rfl rfl fun v0 => ?_
    (repeat' (first | refine w9x ?_ | refine w9p (hC) ?_ | refine w9p (hR) ?_ | (refine w9c ?_ ?_ <;> intro _ <;> try exact w9o) | (refine w9d ?_ ?_ <;> intro _ <;> try exact w9s) | (refine w9q ?_; intro bnil hbnil)))
    all_goals first | (exfalso; omega) | exact .mk rfl rfl rfl
end Go.Proofs.YtkkcnppgcnmikaaGreatDoor
