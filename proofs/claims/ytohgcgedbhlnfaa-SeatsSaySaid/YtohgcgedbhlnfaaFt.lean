/- Structs built, pointers looked at. No program in sight. -/
import Derived.Test.YtohgcgedbhlnfaaFw
namespace FM
open Go Go.RowKit
set_option linter.all false
theorem noSh_plain {x : AV} (h : x.flatPlain = true) : NoSh x := by
  cases x <;> first | exact .int | exact .bool | exact .str | exact .val | exact .nil | (simp [AV.flatPlain] at h)
theorem noSh_ptL {cs : List AV} (h : cs.all AV.flatPlain = true) : NoSh (.pt true cs) := .pt fun x hx => noSh_plain (List.all_eq_true.1 h x hx)
theorem noSh_aggL {cs : List AV} (h : cs.all AV.flatPlain = true) : NoSh (.agg cs) := .agg fun x hx => noSh_plain (List.all_eq_true.1 h x hx)
theorem noSh_aggs {α : Type} {f : α → AV} {l : List α} {c : Nat} (h : ∀ a, NoSh (f a)) : NoSh (.sl true c (l.map f)) := .sl fun x hx => by obtain ⟨n, _, rfl⟩ := List.mem_map.1 hx; exact h n
section
variable {S : Sys} {σ : St} {d : Nat} {ty : Nat} {pos : String} {aft : Array Edge} {g : Option (Nat × Bool)}
/-- A struct's cells: its zero's, but for the parts that are given, in the fields' order. -/
inductive FillOk (σ : St) : Nat → List AV → List (Nat × Operand) → List AV → Prop
  | nil {k} : FillOk σ k [] [] []
  | part {k i : Nat} {z y : AV} {x : Operand} {zs ys : List AV} {ps : List (Nat × Operand)} (hi : Nat.beq k i = true) (hx : ov σ x = .av y) (hy : y.cellOk = true) (ho : y.isOwn = false) (h : FillOk σ (k + 1) zs ps ys) : FillOk σ k (z :: zs) ((i, x) :: ps) (y :: ys)
  | zero {k : Nat} {z : AV} {zs ys : List AV} {ps : List (Nat × Operand)} (h : FillOk σ (k + 1) zs ps ys) : FillOk σ k (z :: zs) ps (z :: ys)
theorem FillOk.length {k : Nat} {zs ys : List AV} {ps : List (Nat × Operand)} (h : FillOk σ k zs ps ys) : ys.length = zs.length := by
  induction h with
  | nil => rfl
  | part _ _ _ _ _ ih => simp [ih]
  | zero _ ih => simp [ih]
theorem FillOk.run {w0 : World} {L0 : Nat → Lab} {N : Nat} {a : Act} {w : World} {L : Nat → Lab} (hR : RelL S w0 L0 N σ a w L) {place : Nat → Option (Nat × Nat)} {n : Nat} (hp : ∀ i, i < n → place i = some (i, 1)) {k : Nat} {zs ys : List AV} {ps : List (Nat × Operand)} (h : FillOk σ k zs ps ys) :
    ∀ cells : Array Value, cells.size = n → k + zs.length = n → (∀ j z, zs[j]? = some z → ∃ u, cells[k + j]? = some u ∧ Rep L w none z u) →
      ∃ cells', Instr.fill place cells (ps.map fun p => (p.1, a.eval p.2)) = some cells' ∧ cells'.size = n ∧ (∀ j, j < k → cells'[j]? = cells[j]?) ∧ ∀ j y, ys[j]? = some y → ∃ u, cells'[k + j]? = some u ∧ Rep L w none y u := by
  induction h with
  | nil => exact fun cells hs _ _ => ⟨cells, rfl, hs, fun _ _ => rfl, fun j y hy => by simp at hy⟩
  | @part k i z y x zs ys ps hi hx hy ho _ ih =>
    intro cells hs hk hz
    have hi := Nat.eq_of_beq_eq_true hi
    subst hi
    rw [List.length_cons] at hk
    obtain ⟨m, hm⟩ := ev_av hR hx
    obtain ⟨c1, c2, c3⟩ := cellOk_spec hm hy
    have hm' : Rep L w none y (a.eval x) := Rep.replace hm ho
    have hlt : k < cells.size := by omega
    obtain ⟨cells', e1, e2, e3, e4⟩ := ih (cells.setIfInBounds k (a.eval x)) (by simp [hs]) (by omega) (fun j z' hz' => by
      obtain ⟨u, hu, hr⟩ := hz (j + 1) z' (by simpa using hz')
      refine ⟨u, ?_, hr⟩
      rw [Array.getElem?_setIfInBounds_ne (by omega), show k + 1 + j = k + (j + 1) by omega]; exact hu)
    refine ⟨cells', ?_, e2, fun j hj => by rw [e3 j (by omega), Array.getElem?_setIfInBounds_ne (by omega)], fun j y' hy' => ?_⟩
    · simp only [List.map_cons, Instr.fill, hp k (by omega)]
      have hsz : (a.eval x).cells.size = 1 := by rw [c1]; rfl
      have hne : ((a.eval x).cells.size ≠ 1 || k + (a.eval x).cells.size > cells.size) = false := by
        simp [hsz]; omega
      simp only [hne, Bool.false_eq_true, if_false]
      have hf : ((a.eval x).cells.zipIdx.foldl (fun cs (p : Value × Nat) => cs.setIfInBounds (k + p.2) p.1) cells) = cells.setIfInBounds k (a.eval x) := by
        rw [c1]; simp
      rw [← hf] at e1
      exact e1
    · cases j with
      | zero =>
        simp only [List.getElem?_cons_zero, Option.some.injEq] at hy'; subst hy'
        refine ⟨a.eval x, ?_, hm'⟩
        rw [Nat.add_zero, e3 k (by omega)]
        simp [hlt]
      | succ j =>
        simp only [List.getElem?_cons_succ] at hy'
        obtain ⟨u, hu, hr⟩ := e4 j y' hy'
        exact ⟨u, by rw [show k + (j + 1) = k + 1 + j by omega]; exact hu, hr⟩
  | @zero k z zs ys ps _ ih =>
    intro cells hs hk hz
    rw [List.length_cons] at hk
    obtain ⟨cells', e1, e2, e3, e4⟩ := ih cells hs (by omega) (fun j z' hz' => by
      obtain ⟨u, hu, hr⟩ := hz (j + 1) z' (by simpa using hz')
      exact ⟨u, by rw [show k + 1 + j = k + (j + 1) by omega]; exact hu, hr⟩)
    refine ⟨cells', e1, e2, fun j hj => e3 j (by omega), fun j y' hy' => ?_⟩
    cases j with
    | zero =>
      simp only [List.getElem?_cons_zero, Option.some.injEq] at hy'; subst hy'
      obtain ⟨u, hu, hr⟩ := hz 0 z rfl
      exact ⟨u, by rw [Nat.add_zero, e3 k (by omega)]; exact hu, hr⟩
    | succ j =>
      simp only [List.getElem?_cons_succ] at hy'
      obtain ⟨u, hu, hr⟩ := e4 j y' hy'
      exact ⟨u, by rw [show k + (j + 1) = k + 1 + j by omega]; exact hu, hr⟩
def ones1 (T : Nat → Option TI) : List (Nat × Nat) → Nat → Bool
  | [], _ => true
  | f :: fs, j => Nat.beq f.1 j && (match T f.2 with | some ti => Nat.beq ti.size 1 | none => false) && ones1 T fs (j + 1)
theorem ones1_get {T : Nat → Option TI} : ∀ {fs : List (Nat × Nat)} {j i : Nat} {f : Nat × Nat}, ones1 T fs j = true → fs[i]? = some f → f.1 = j + i ∧ ∃ ti, T f.2 = some ti ∧ ti.size = 1
  | [], j, i, f, _, h => by simp at h
  | x :: fs, j, i, f, h, hf => by
    simp only [ones1, Bool.and_eq_true] at h
    cases i with
    | zero =>
      simp only [List.getElem?_cons_zero, Option.some.injEq] at hf; subst hf
      refine ⟨Nat.eq_of_beq_eq_true h.1.1, ?_⟩
      have h2 := h.1.2
      cases hT : T x.2 with
      | none => rw [hT] at h2; cases h2
      | some ti => rw [hT] at h2; exact ⟨ti, rfl, Nat.eq_of_beq_eq_true h2⟩
    | succ i =>
      simp only [List.getElem?_cons_succ] at hf
      have := ones1_get (j := j + 1) h.2 hf
      exact ⟨by omega, this.2⟩
/-- T{..}, of fields of one cell each. -/
theorem s_bldS {t sz by_ : Nat} {fs : List (Nat × Nat)} {zz ys : List AV} {ps : Array (Nat × Operand)} (hT : S.T t = some ⟨.struct fs, sz, by_, zz⟩) (hf : ones1 S.T fs 0 = true) (hl : Nat.beq fs.length sz = true) (hp : FillOk σ 0 zz ps.toList ys) : Step S ⟨some d, .build t ps, ty, pos, aft, g⟩ σ (σ.put d (.av (.agg ys))) := by
  refine step_val rfl fun w0 L0 N a w L hR => ?_
  have hl := Nat.eq_of_beq_eq_true hl
  obtain ⟨f, zv, hf1, hf2, hf3, hf4, hf5, hf6, hf7⟩ := (S.ok t _ hT).info
  obtain ⟨dd, hd, fields, hde, hfl⟩ := (S.ok t _ hT).desc
  subst hde
  simp only at hf2 hf3 hf5 hf6 hf7
  have hfz : fields.size = sz := by
    have := congrArg List.length hfl
    rw [List.length_map, Array.length_toList] at this
    omega
  have hzl : zz.length = sz := by
    have := congrArg List.length hf5
    rw [List.length_map, Array.length_toList] at this
    omega
  have hcell : ∀ j z, zz[j]? = some z → ∃ u, zv.cells[0 + j]? = some u ∧ Rep L w none z u := fun j z hz => by
    refine ⟨z.toV, ?_, toV_rep (List.all_eq_true.1 hf6 z (List.mem_of_getElem? hz))⟩
    rw [Nat.zero_add, ← Array.getElem?_toList, hf5, List.getElem?_map, hz]; rfl
  have hfield : ∀ (i : Nat) (fd : Field), fields[i]? = some fd → fd.offset = i ∧ ∃ fe, S.P.info? fd.type = some fe ∧ fe.size = 1 := fun i fd hfd => by
    have h1 : fs[i]? = some (fd.offset, fd.type) := by rw [← hfl, List.getElem?_map, Array.getElem?_toList, hfd]; rfl
    obtain ⟨h2, ti, h3, h4⟩ := ones1_get hf h1
    obtain ⟨fe, h5, h6⟩ := (S.ok _ ti h3).size
    exact ⟨by simpa using h2, fe, h5, by rw [h6, h4]⟩
  obtain ⟨cells', e1, e2, _, e4⟩ := hp.run hR (place := fun i => ((Array.range sz).map fun i => (i, 1))[i]?) (n := sz) (fun i hi => by simp [hi]) zv.cells hf7 (by rw [hzl]; omega) hcell
  refine ⟨.agg cells', fun w' _ => ?_, ?_⟩
  · have hplaces : (fields.mapM fun f => do pure (f.offset, ← Go.sizeOf f.type) : Sem (Array (Nat × Nat))).run S.P w' = .ok ((Array.range sz).map fun i => (i, 1)) w' := by
      have hmr := mapM_run (P := S.P) (w := w') (fun f : Field => (do pure (f.offset, ← Go.sizeOf f.type) : Sem (Nat × Nat))) fields.toList ((List.range sz).map fun i => (i, 1)) (by simp [hfz]) (fun k x v hx hv => by
        rw [Array.getElem?_toList] at hx
        obtain ⟨h1, fe, h2, h3⟩ := hfield k x hx
        have hk : k < sz := by rw [← hfz]; exact (Array.getElem?_eq_some_iff.1 hx).1
        rw [List.getElem?_map, List.getElem?_range hk] at hv
        simp only [Option.map_some, Option.some.injEq] at hv
        subst hv
        simp [Go.sizeOf, typeInfo, h2, h3, h1])
      rw [Array.mapM_eq_mapM_toList]
      simp only [map_eq_pure_bind, Sem.run_bind, hmr, Result.andThen_ok, Sem.run_pure]
      congr 1
      apply Array.ext'
      simp
    simp only [execOp, Sem.run_bind, Instr.build, zeroValue, typeInfo, run_program, hf1, hf4, Result.andThen_ok, Sem.run_pure, run_underlying hd]
    rw [hplaces]
    simp only [Result.andThen_ok, Array.toList_map]
    rw [show (ps.toList.map fun x => match x with | (i, x) => (i, a.eval x)) = ps.toList.map fun p => (p.1, a.eval p.2) from rfl, e1]
    simp
  · have hys : ys.length = sz := by rw [hp.length, hzl]
    have : (Value.agg cells') = .agg cells'.toList.toArray := by simp
    rw [this]
    refine .agg (by rw [Array.length_toList, e2, hys]) fun i x v hx hv => ?_
    obtain ⟨u, hu, hr⟩ := e4 i x hx
    rw [Nat.zero_add] at hu
    rw [Array.getElem?_toList, hu] at hv
    cases hv
    exact hr
/-- A pointer that is not nil. -/
theorem s_nilR {x : Operand} {s : Nat} {o : Bool} {cs : List AV} (hx : ov σ x = .ref s) (hs : get σ s = .av (.pt o cs)) (hsd : Nat.beq s d = false) : Step S ⟨some d, .nilCheck x, ty, pos, aft, g⟩ σ (σ.put d (.ref s)) := by
  intro w0 L0 N a w hN ⟨L, h⟩
  obtain ⟨m, hm, _⟩ := hold_plain h hx (by simp)
  simp only [Hold] at hm
  have hh := h.hold s (own_lt h hs (by simp))
  rw [hs, ← hm] at hh
  obtain ⟨ad, hv⟩ : ∃ ad, a.eval x = .pointer (some ad) := by generalize a.eval x = v at hh; cases hh <;> exact ⟨_, rfl⟩
  refine ⟨a.eval x, fun w' _ => ?_, _, h.put (hN d rfl) ?_⟩
  · simp [execOp, hv]
  · simp only [Hold]
    rw [hm, getD_set_other (fun e => of_not_beq hsd e.symm)]
theorem s_nilS {x : Operand} {cs : List AV} (hx : ov σ x = .av (.pt false cs)) : Step S ⟨some d, .nilCheck x, ty, pos, aft, g⟩ σ (σ.put d (.av (.pt false cs))) :=
  step_val rfl fun w0 L0 N c w L hR => by
    obtain ⟨m, hm⟩ := ev_av hR hx
    obtain ⟨ad, hv⟩ : ∃ ad, c.eval x = .pointer (some ad) := by generalize c.eval x = v at hm; cases hm; exact ⟨_, rfl⟩
    exact ⟨c.eval x, fun w' _ => by simp [execOp, hv], Rep.replace hm rfl⟩
theorem s_ptNil {x y : Operand} {s t t2 e : Nat} {o : Bool} {cs : List AV} (hT : S.P.underlying t = some (.pointer e)) (hx : ov σ x = .ref s) (hs : get σ s = .av (.pt o cs)) (hy : ov σ y = .av (.val (.pointer none))) : Step S ⟨some d, .binOp .eql t x y t2, ty, pos, aft, g⟩ σ (σ.put d (.av (.bool false))) :=
  step_val rfl fun w0 L0 N c w L hR => ⟨.bool false, fun w' _ => by
    obtain ⟨m, hm, _⟩ := hold_plain hR hx (by simp)
    simp only [Hold] at hm
    have hh := hR.hold s (own_lt hR hs (by simp))
    rw [hs, ← hm] at hh
    have hyv := ev_val hR hy
    obtain ⟨ad, hv⟩ : ∃ ad, c.eval x = .pointer (some ad) := by generalize c.eval x = v at hh; cases hh <;> exact ⟨_, rfl⟩
    have e : (Op.equal t (.pointer (some ad)) (.pointer none)).run S.P w' = .ok false w' := by
      show (Op.equalIn (9999 + 1) t (.pointer (some ad)) (.pointer none)).run S.P w' = _
      unfold Op.equalIn
      rw [Sem.run_bind, run_underlying hT, Result.andThen_ok]
      rfl
    have e2 : (binOp .eql t (.pointer (some ad)) (.pointer none)).run S.P w' = .ok (.bool false) w' := by
      show (do pure (.bool (← Op.equal t (.pointer (some ad)) (.pointer none))) : Sem Value).run S.P w' = _
      rw [Sem.run_bind, e]; rfl
    simp only [execOp, hv, hyv, eqGuard, Sem.run_bind]
    simp [e2], .bool⟩
end
end FM
