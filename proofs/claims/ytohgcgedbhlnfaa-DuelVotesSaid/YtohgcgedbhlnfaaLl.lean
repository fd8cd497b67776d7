/- A literal of what is borrowed, handed on to a call at once. No program in sight. -/
import Derived.Test.YtohgcgedbhlnfaaFs
namespace FM
open Go Go.RowKit
set_option linter.all false
section
variable {S : Sys} {N : Nat} {σ : St}
theorem ArgsM.len {ms : List (Nat × Nat)} {i : Nat} {xs : List Operand} {ys : List AV} (h : ArgsM S N σ ms i xs ys) : xs.length = ys.length := h.length
/-- f([]T{x, y}...): the literal holds what the parts read as; behind the call nothing is known of it. -/
theorem J.litCall {P : Program} {f : Nat} {r : AV} {zs : List AV} {xs : List Operand} {ops : Array Oper} {l : List Oper} {K : St → Prop} {d1 d2 t e n sz by_ ty ty2 : Nat} {zz : List AV} {ti : TI} {ps : Array (Nat × Operand)} {ts : Array Nat} {pos pos2 : String} {aft aft2 : Array Edge} {g g2 : Option (Nat × Bool)}
    (hs : FnSpec P f [.sl false 1 zs] [.sl false 1 zs] r) (hP : P = S.P) (hT : S.T t = some ⟨.slice e, sz, by_, zz⟩) (hE : S.T e = some ti) (hc : ti.size = 1)
    (hps : ps = (xs.zipIdx.map fun p => (p.2, p.1)).toArray) (hn : xs.length = n) (hb : Nat.ble n 16777216 = true) (hg : live ops g σ = some true) (hg2 : live ops g2 (σ.put d1 (.av .dead)) = some true)
    (hx : xs.all (fun x => match x with | .tmp t => !Nat.beq t d1 | _ => false) = true) (ha : ArgsM S N (σ.put d1 (.av .dead)) [] 0 xs zs) (hz : zs.all (fun z => z.cellOk && !z.isOwn) = true) (hr : NoSh r)
    (h : J false S N ops l K ((σ.put d1 (.av .dead)).put d2 (.av r))) :
    J false S N ops (⟨some d1, .buildSlice t n ps, ty, pos, aft, g⟩ :: ⟨some d2, .call ⟨.value (.func f), #[.tmp d1], ts⟩, ty2, pos2, aft2, g2⟩ :: l) K σ := by
  subst hP; subst hps; subst hn
  unfold J at *
  intro hdo w0 L0 Q a w hQ ⟨L, hR⟩
  obtain ⟨h1, h2⟩ := dstOk_cons hdo
  obtain ⟨h3, h4⟩ := dstOk_cons h2
  have hd1 := h1 d1 rfl
  have hd2 := h3 d2 rfl
  have hw1 := live_wanted (o := ⟨some d1, .buildSlice t xs.length (xs.zipIdx.map fun p => (p.2, p.1)).toArray, ty, pos, aft, g⟩) hg ⟨L, hR⟩
  obtain ⟨vs, hvs⟩ : ∃ vs, vs = xs.map a.eval := ⟨_, rfl⟩
  obtain ⟨o, ho⟩ : ∃ o : Obj, o = .cells (vs.flatMap fun v => v.cells.toList).toArray e := ⟨_, rfl⟩
  have hvl : vs.length = xs.length := by rw [hvs, List.length_map]
  obtain ⟨L1, hR1⟩ := hR.alloc (o := o) (x := .dead) (v := .slice (some ⟨w.heap.size, 0, none⟩) vs.length vs.length) hd1 .dead
  have hev : ∀ x ∈ xs, (a.put (some d1) (.slice (some ⟨w.heap.size, 0, none⟩) vs.length vs.length)).eval x = a.eval x := fun x hxm => by
    have := List.all_eq_true.1 hx x hxm
    cases x with
    | tmp t =>
      simp only at this
      exact getD_set_other (fun e => by subst e; rw [Nat.beq_refl] at this; cases this)
    | _ => cases this
  have hzl : xs.length = zs.length := ha.length
  have hzz : ∀ z ∈ zs, z.cellOk = true ∧ z.isOwn = false := fun z hm => by
    have := List.all_eq_true.1 hz z hm
    simpa using this
  have reps : ∀ (i : Nat) z v, zs[i]? = some z → vs[i]? = some v → Rep (inM [] L1) (w.alloc o) none z v := fun i z v h5 h6 => by
    rw [hvs, List.getElem?_map, Option.map_eq_some_iff] at h6
    obtain ⟨x, h7, rfl⟩ := h6
    have := (ha.get i x z h7 h5).rep hR1
    rw [hev x (List.mem_of_getElem? h7)] at this
    exact this.replace (hzz z (List.mem_of_getElem? h5)).2
  have hall : ∀ z ∈ zs, z.varOk = true ∧ z.cells.length = 1 := fun z hm => by
    obtain ⟨c1, c2⟩ := hzz z hm
    cases z <;> first | exact ⟨c1, rfl⟩ | (simp [AV.cellOk] at c1)
  obtain ⟨f1, f2, f3, f4⟩ := flat_values (by rw [hvl, hzl]) hall reps
  have hrun := run_buildSlice hT hE hc f1 (by rw [f3, hvl, hzl]) (by rw [hvl, Nat.mul_one]; exact Nat.le_of_ble_eq_true hb) w
  have e1 : ((xs.zipIdx.map fun p => (p.2, p.1)).toArray.map fun (i, x) => (i, a.eval x)) = (vs.zipIdx.map fun p => (p.2, p.1)).toArray := by
    rw [hvs, List.zipIdx_map]
    simp
  have hex : (execOp a.eval ⟨some d1, .buildSlice t xs.length (xs.zipIdx.map fun p => (p.2, p.1)).toArray, ty, pos, aft, g⟩).run S.P w = .ok (.value (.slice (some ⟨w.heap.size, 0, none⟩) vs.length vs.length)) (w.alloc o) := by
    simp only [execOp, Sem.run_bind]
    rw [e1, ← hvl, hrun, ho]; rfl
  simp only [wpList, hw1, if_true]
  refine .inl ?_
  unfold Oper.wp
  rw [hex]
  show wpList S.P ops Q (⟨some d2, .call ⟨.value (.func f), #[.tmp d1], ts⟩, ty2, pos2, aft2, g2⟩ :: l) (a.put (some d1) (.slice (some ⟨w.heap.size, 0, none⟩) vs.length vs.length)) (w.alloc o)
  generalize ha1 : (a.put (some d1) (.slice (some ⟨w.heap.size, 0, none⟩) vs.length vs.length)) = a1 at *
  have hw2 := live_wanted (o := ⟨some d2, .call ⟨.value (.func f), #[.tmp d1], ts⟩, ty2, pos2, aft2, g2⟩) hg2 ⟨L1, hR1⟩
  simp only [wpList, hw2, if_true]
  refine .inl ?_
  unfold Oper.wp
  rw [run_call hs.ok rfl rfl (w.alloc o), Oper.upon_enter]
  have hve : a1.eval (.tmp d1) = .slice (some ⟨w.heap.size, 0, none⟩) vs.length vs.length := by
    rw [← ha1]; exact getD_set_same (by rw [hR.size]; exact hd1.lt)
  have hnb : w.heap.size < (w.alloc o).heap.size := by simp
  have hsh : inM [] L1 w.heap.size = .sh := by
    cases hl : L1 w.heap.size with
    | fo => exact absurd hl (hR1.lok.new _ hR.keep.size)
    | sh => exact inM_sh hl
    | my p =>
      unfold inM
      rw [hl]
      cases p <;> rfl
  refine (hs.calls (w.alloc o) (inM [] L1) [a1.eval (.tmp d1)] rfl ⟨fun b p hb => ?_, fun b p hb => ?_, fun b b' p hb hb' => ?_, fun b hge hf => ?_⟩ (fun i x v hx hv => ?_)).mono fun e' w' ⟨v, L', he, hB⟩ => ?_
  · obtain ⟨t, i, q, _, h7, _⟩ := inM_my hb; cases h7
  · obtain ⟨t, i, q, _, h7, _⟩ := inM_my hb; cases h7
  · obtain ⟨t, i, q, _, h7, _⟩ := inM_my hb; cases h7
  · have := inM_fo.1 hf
    exact hR1.lok.new b (Nat.le_trans hR1.keep.size hge) this
  · match i with
    | 0 =>
      simp only [List.getElem?_cons_zero, Option.some.injEq] at hx hv
      subst hx; subst hv
      rw [hve]
      have hvz : vs.length = zs.length := by rw [hvl, hzl]
      rw [hvz]
      have hcl : ∀ x ∈ zs, x.cells.length = 1 := fun x hm => (hall x hm).2
      refine .slS (off := 0) (fun o => (vs.flatMap fun v => v.cells.toList).getD o undef) (Nat.le_refl _) hsh hnb hcl (fun j hj => ?_) (fun j y hy => ?_)
      · rw [Nat.zero_add, ho, cell_of_row _ _ _ _ _ _ (heap_alloc_new w _)]
        have : j < (vs.flatMap fun v => v.cells.toList).length := by rw [f3]; exact hj
        rw [List.getElem?_toArray, List.getD_eq_getElem?_getD, List.getElem?_eq_getElem this]; rfl
      · obtain ⟨u, h7, h8⟩ := f4 j y hy
        rw [List.getD_eq_getElem?_getD, h7]
        exact h8
    | i + 1 => simp at hx
  · subst he
    refine h h4 w0 L0 Q _ w' hQ (after_callM hR1 hd2 (ms := []) ⟨fun s i h => (by cases h), fun i s h => (by cases h), fun s i h => (by cases h), rfl⟩ hB hr fun s i hi => by cases hi)
end
end FM
