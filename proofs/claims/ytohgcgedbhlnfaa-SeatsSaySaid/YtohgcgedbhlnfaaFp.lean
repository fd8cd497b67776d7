/- Variables in memory: boxes, fields, arrays. No program in sight. -/
import Derived.Test.YtohgcgedbhlnfaaFo
namespace FM
open Go Go.RowKit
set_option linter.unusedVariables false
section
variable {S : Sys} {N : Nat} {σ : St} {d : Nat} {ty : Nat} {pos : String} {aft : Array Edge} {g : Option (Nat × Bool)}
/-- A new variable of a type. -/
theorem e_alloc {t : Nat} {ti : TI} (hT : S.T t = some ti) : EStep S ⟨some d, .alloc t, ty, pos, aft, g⟩ σ (σ.put d (.av (.pt true ti.zero))) := by
  intro w0 L0 N a w hN ⟨L, hR⟩
  obtain ⟨f, zv, hf1, hf2, hf3, hf4, hf5, hf6, hf7⟩ := (S.ok t ti hT).info
  refine ⟨.pointer (some ⟨w.heap.size, 0, none⟩), w.alloc (.cells zv.cells t), .inl ?_, hR.alloc (hN d rfl) ?_⟩
  · simp [execOp, Instr.alloc, zeroValue, typeInfo, hf1, hf4, newVar, newRow]
  have hlen : zv.cells.size = ti.zero.length := by rw [← Array.length_toList, hf5, List.length_map]
  refine .ptO (fun o => (zv.cells[o]?).getD undef) (by simp [setL]) (heap_alloc_new w _) hlen (fun o ho => ?_) (fun o y hy => ?_)
  · have : o < zv.cells.size := by omega
    simp [this]
  · have e1 : zv.cells.toList[o]? = some y.toV := by rw [hf5, List.getElem?_map, hy]; rfl
    rw [Array.getElem?_toList] at e1
    rw [e1]
    exact toV_rep ((List.all_eq_true.1 hf6) y (List.mem_of_getElem? hy))

/-- A new variable that holds a value. -/
theorem e_box {t : Nat} {v : Operand} {z : AV} (hv : ov σ v = .av z) (hz : z.isOwn = false) (hok : z.varOk = true) : EStep S ⟨some d, .box t v, ty, pos, aft, g⟩ σ (σ.put d (.av (.pt true z.cells))) := by
  intro w0 L0 N a w hN ⟨L, hR⟩
  obtain ⟨v1, v2, v3⟩ := val_cells hR hv hz hok
  refine ⟨.pointer (some ⟨w.heap.size, 0, none⟩), w.alloc (.cells (a.eval v).cells t), .inl ?_, hR.alloc (hN d rfl) ?_⟩
  · simp [execOp, Instr.box, newVar, newRow]
  refine .ptO (fun o => ((a.eval v).cells[o]?).getD undef) (by simp [setL]) (heap_alloc_new w _) v1 (fun o ho => ?_) (fun o y hy => ?_)
  · have : o < (a.eval v).cells.size := by omega
    simp [this]
  · obtain ⟨u, h1, h2⟩ := v3 o y hy
    rw [h1]
    exact (Rep.inNew hR h2).any _
theorem pt_core {t : Nat} {ti : TI} (hT : S.T t = some ti) {L : Nat → Lab} {w : World} {p : List Nat} {off b : Nat} {cs cs' zs : List AV} {v zv : Value} (hL : L b = .my p) (hinj : ∀ b b' p, L b = .my p → L b' = .my p → b = b')
    (hh : Rep L w (some p) (.pt true cs) v) (hfit : off + zs.length ≤ cs.length) (hz : zs.length = ti.size) (v1 : zv.cells.size = zs.length) (v2 : ∀ u ∈ zv.cells.toList, u.oneCell' = true) (v3 : ∀ (j : Nat) y, zs[j]? = some y → ∃ u, zv.cells[j]? = some u ∧ Rep L w none y u)
    (hl : cs'.length = cs.length) (hcs : ∀ (j : Nat) y, cs'[j]? = some y → (off ≤ j ∧ j < off + zs.length ∧ zs[j - off]? = some y) ∨ (¬ (off ≤ j ∧ j < off + zs.length) ∧ cs[j]? = some y)) :
    ∃ W : World, (Instr.storeAt t (.pointer (some ⟨b, off, none⟩)) zv).run S.P w = .ok () W ∧ W.heap.size = w.heap.size ∧ W.os = w.os ∧ W.tape = w.tape ∧ W.output = w.output ∧ (∀ k, k ≠ b → W.heap[k]? = w.heap[k]?) ∧ Rep L W (some p) (.pt true cs') v := by
  cases hh with
  | @ptO p cs b' arr e u hL' hb hsz hcell hr =>
    have := hinj _ _ _ hL hL'
    subst this
    obtain ⟨A, hrun, hAsz, harr⟩ : ∃ A : Array Value, (Instr.storeAt t (.pointer (some ⟨b, off, none⟩)) zv).run S.P w = .ok () (w.setRow b A) ∧ A.size = arr.size ∧ ∀ j, A[j]? = if off ≤ j ∧ j < off + zv.cells.size then zv.cells[j - off]? else arr[j]? :=
      ⟨_, run_store_at (S := S) hT (off := off) (v := zv) hb (by omega) v2 (by omega), by simp; omega, fun j => by
        have := getElem?_splice arr.toList zv.cells.toList off j (by simp; omega)
        simpa using this⟩
    have hother : ∀ k, k ≠ b → (w.setRow b A).heap[k]? = w.heap[k]? := fun k hk => setRow_other w b k A hk
    have hnew := setRow_heap w b arr A e (0, 0) hb
    have hsz' : (w.setRow b A).heap.size = w.heap.size := by simp
    have ho : (w.setRow b A).os = w.os := rfl
    have ht : (w.setRow b A).tape = w.tape := rfl
    have hu : (w.setRow b A).output = w.output := rfl
    generalize w.setRow b A = W at hrun hother hnew hsz' ho ht hu
    refine ⟨W, hrun, hsz', ho, ht, hu, hother, ?_⟩
    have hslots : ∀ π (y : AV) (u : Value), Rep L w π y u → (∀ p', π = some p' → ∃ o q, p' = p ++ o :: q) → Rep L W π y u := fun π y u h hπ =>
      h.frame (by omega) ho ht hu (fun k hk _ => ⟨hk, hother k (fun e => by subst e; rw [hL] at hk; cases hk)⟩) π fun p' hp' => ⟨p', hp', fun k q hk => ⟨hk, hother k (fun e => by
        subst e
        obtain ⟨o, q', rfl⟩ := hπ p' hp'
        rw [hL] at hk; injection hk with hk
        have := congrArg List.length hk
        simp at this)⟩⟩
    refine .ptO (fun o => (A[o]?).getD undef) hL hnew (by omega) (fun o ho => ?_) (fun o y hy => ?_)
    · have : o < A.size := by omega
      simp [this]
    · rw [harr]
      rcases hcs o y hy with ⟨h1, h2, h3⟩ | ⟨h1, h2⟩
      · rw [if_pos (by omega)]
        obtain ⟨u', hu', hr'⟩ := v3 _ y h3
        rw [hu']
        exact (hslots none y u' hr' (fun p hp => by cases hp)).any _
      · rw [if_neg (by omega)]
        have ho : o < cs.length := (List.getElem?_eq_some_iff.1 h2).1
        rw [hcell o ho]
        exact hslots _ y _ (hr o y h2) (fun p hp => by cases hp; exact ⟨o, [], rfl⟩)
/-- A slot that holds a pointer to what this call owns. -/
theorem pt_at {L : Nat → Lab} {w : World} {p : List Nat} {cs : List AV} {v : Value} (h : Rep L w (some p) (.pt true cs) v) : ∃ b, L b = .my p ∧ v = .pointer (some ⟨b, 0, none⟩) ∧ b < w.heap.size ∧ ∀ (j : Nat) z, cs[j]? = some z → ∃ u, w.cell? ⟨b, j, none⟩ = some u ∧ Rep L w (some (p ++ [j])) z u := by
  cases h with
  | @ptO p cs b arr e u hL hb hsz hcell hr =>
    exact ⟨b, hL, rfl, (Array.getElem?_eq_some_iff.1 hb).1, fun j z hz => ⟨u j, by rw [cell_of_row w b j arr e (0, 0) hb]; exact hcell j (List.getElem?_eq_some_iff.1 hz).1, hr j z hz⟩⟩
/-- The whole variable is stored. -/
theorem e_stPt {t s : Nat} {ti : TI} {v : Operand} {cs : List AV} {z : AV} (hs : get σ s = .av (.pt true cs)) (hT : S.T t = some ti) (hv : ov σ v = .av z) (hz : z.isOwn = false) (hok : z.varOk = true) (hc : Nat.beq z.cells.length ti.size = true) (hc2 : Nat.beq cs.length ti.size = true) :
    EStep S ⟨none, .store t (.tmp s) v, ty, pos, aft, g⟩ σ (σ.upd false s (.av (.pt true z.cells))) := by
  intro w0 L0 N a w _ ⟨L, hR⟩
  have hc1 := Nat.eq_of_beq_eq_true hc
  have hc3 := Nat.eq_of_beq_eq_true hc2
  have hsN := own_lt hR hs (by simp)
  have hh := hR.hold s hsN
  rw [hs] at hh
  simp only [Hold] at hh
  obtain ⟨v1, v2, v3⟩ := val_cells hR hv hz hok
  obtain ⟨b, hL, hp, _, _⟩ := pt_at hh
  obtain ⟨W, hrun, hsz, ho, ht, hu, hother, hrep⟩ := pt_core hT (off := 0) (zs := z.cells) (cs' := z.cells) hL hR.lok.inj hh (by omega) hc1 v1 v2 v3 (by omega) (fun j y hy => .inl ⟨Nat.zero_le _, by have := (List.getElem?_eq_some_iff.1 hy).1; omega, by simpa using hy⟩)
  have hev : a.eval (.tmp s) = .pointer (some ⟨b, 0, none⟩) := hp
  exact ⟨undef, W, .inr ⟨by simp only [execOp, hev, Sem.run_bind, hrun]; rfl, rfl⟩, L, hR.write (b := b) (q0 := []) hsN hL hsz ho ht hu hother hrep false (fun h => by cases h)⟩
/-- One cell of a variable is stored: a field, an element of an array. -/
theorem e_stF {t s o : Nat} {ti : TI} {x v : Operand} {cs : List AV} {y0 z : AV} (hx : ov σ x = .fpt s o y0) (hs : get σ s = .av (.pt true cs)) (hT : S.T t = some ti) (hv : ov σ v = .av z) (hz : z.isOwn = false) (hok : z.varOk = true) (h1 : z.cells = [z]) (hc2 : Nat.beq ti.size 1 = true) (ho : o < cs.length) :
    EStep S ⟨none, .store t x v, ty, pos, aft, g⟩ σ (σ.upd false s (.av (.pt true (cs.set o z)))) := by
  intro w0 L0 N a w _ ⟨L, hR⟩
  have hc3 := Nat.eq_of_beq_eq_true hc2
  obtain ⟨_, ⟨b, hL, hp, _⟩, _⟩ := hold_plain hR hx (by simp)
  have hsN := own_lt hR hs (by simp)
  have hh := hR.hold s hsN
  rw [hs] at hh
  simp only [Hold] at hh
  obtain ⟨v1, v2, v3⟩ := val_cells hR hv hz hok
  obtain ⟨W, hrun, hsz, ho', ht, hu, hother, hrep⟩ := pt_core hT (off := o) (zs := z.cells) (cs' := cs.set o z) hL hR.lok.inj hh (by rw [h1]; simp; omega) (by rw [h1, hc3]; rfl) v1 v2 v3 (by simp) (fun j y hy => by
    rw [List.getElem?_set] at hy
    rw [h1]
    by_cases hoj : o = j
    · subst hoj
      rw [if_pos rfl, if_pos ho] at hy
      exact .inl ⟨Nat.le_refl _, by simp, by simpa using hy⟩
    · rw [if_neg hoj] at hy
      exact .inr ⟨by simp; omega, hy⟩)
  exact ⟨undef, W, .inr ⟨by simp only [execOp, hp, Sem.run_bind, hrun]; rfl, rfl⟩, L, hR.write (b := b) (q0 := []) hsN hL hsz ho' ht hu hother hrep false (fun h => by cases h)⟩
theorem e_stFM {α : Type} {f : α → AV} {l : List α} {n : α} {t s o : Nat} {ti : TI} {x v : Operand} {y0 : AV} (hx : ov σ x = .fpt s o y0) (hs : get σ s = .av (.pt true (l.map f))) (hT : S.T t = some ti) (hv : ov σ v = .av (f n)) (hz : (f n).isOwn = false) (hok : (f n).varOk = true) (h1 : (f n).cells = [f n]) (hc2 : Nat.beq ti.size 1 = true) (ho : o < l.length) :
    EStep S ⟨none, .store t x v, ty, pos, aft, g⟩ σ (σ.upd false s (.av (.pt true ((l.set o n).map f)))) := by
  rw [List.map_set]
  exact e_stF hx hs hT hv hz hok h1 hc2 (by simpa using ho)

theorem run_fieldAt {P : Program} {t i c : Nat} {fields : Array Field} {f : Field} (hu : P.underlying t = some (.struct fields)) (hf : fields[i]? = some f) (hs : ∃ fi, P.info? f.type = some fi ∧ fi.size = c) (hc : c ≠ 0) (b off : Nat) (w : World) :
    (Instr.fieldAt t (.pointer (some ⟨b, off, none⟩)) i).run P w = .ok (.pointer (some ⟨b, off + f.offset, none⟩)) w := by
  obtain ⟨fi, h1, h2⟩ := hs
  subst h2
  simp [Instr.fieldAt, run_underlying hu, hf, Instr.sureAddr, fieldPlace, Go.sizeOf, typeInfo, h1, hc, addr_add]
theorem TOk.fld {P : Program} {t sz by_ i off fty : Nat} {fs : List (Nat × Nat)} {z : List AV} (h : TOk P t ⟨.struct fs, sz, by_, z⟩) (hf : fs[i]? = some (off, fty)) : ∃ fields f, P.underlying t = some (.struct fields) ∧ fields[i]? = some f ∧ f.offset = off ∧ f.type = fty := by
  obtain ⟨d, hd, fields, he, hl⟩ := h.desc
  subst he
  rw [← hl, List.getElem?_map, Option.map_eq_some_iff] at hf
  obtain ⟨f, h1, h2⟩ := hf
  injection h2 with h3 h4
  exact ⟨fields, f, hd, by simpa using h1, h3, h4⟩
/-- x.f of a variable that slot s points to. -/
theorem s_fadO {t sz by_ i off fty s : Nat} {fs : List (Nat × Nat)} {zz cs : List AV} {tif : TI} {y : AV} (hs : get σ s = .av (.pt true cs)) (hT : S.T t = some ⟨.struct fs, sz, by_, zz⟩) (hf : fs[i]? = some (off, fty)) (hF : S.T fty = some tif) (hc : Nat.beq tif.size 0 = false) (hy : cs[off]? = some y) (h1 : y.cells = [y]) (hsd : Nat.beq s d = false) :
    Step S ⟨some d, .fieldAddr t (.tmp s) i, ty, pos, aft, g⟩ σ (σ.put d (.fpt s off y)) := by
  intro w0 L0 N a w hN ⟨L, hR⟩
  have hh := hR.hold s (own_lt hR hs (by simp))
  rw [hs] at hh
  simp only [Hold] at hh
  obtain ⟨b, hL, hp, _, hcs⟩ := pt_at hh
  obtain ⟨fields, f, hu, hfi, h2, h3⟩ := (S.ok t _ hT).fld hf
  have hev : a.eval (.tmp s) = .pointer (some ⟨b, 0, none⟩) := hp
  have hsz := (S.ok fty _ hF).size
  rw [← h3] at hsz
  refine ⟨.pointer (some ⟨b, 0 + f.offset, none⟩), fun w' _ => ?_, Rel.putPlain (n := d) hR (hN d rfl) rfl hsd ⟨b, hL, by rw [h2]; simp, fun _ j z hz => ?_⟩⟩
  · simp only [execOp, hev, Sem.run_bind, run_fieldAt hu hfi hsz (of_not_beq hc)]; rfl
  · rw [h1] at hz
    cases j with
    | zero => simp only [List.getElem?_cons_zero, Option.some.injEq] at hz; subst hz; simpa using hcs off _ hy
    | succ j => simp at hz
theorem s_fadR {t sz by_ i off fty s q : Nat} {fs : List (Nat × Nat)} {zz cs : List AV} {tif : TI} {y : AV} (hq : get σ q = .ref s) (hs : get σ s = .av (.pt true cs)) (hT : S.T t = some ⟨.struct fs, sz, by_, zz⟩) (hf : fs[i]? = some (off, fty)) (hF : S.T fty = some tif) (hc : Nat.beq tif.size 0 = false) (hy : cs[off]? = some y) (h1 : y.cells = [y]) (hsd : Nat.beq s d = false) :
    Step S ⟨some d, .fieldAddr t (.tmp q) i, ty, pos, aft, g⟩ σ (σ.put d (.fpt s off y)) := by
  intro w0 L0 N a w hN ⟨L, hR⟩
  have hh := hR.hold s (own_lt hR hs (by simp))
  have hh2 := hR.hold q (own_lt hR hq (by simp))
  rw [hs] at hh
  rw [hq] at hh2
  simp only [Hold] at hh hh2
  obtain ⟨b, hL, hp, _, hcs⟩ := pt_at hh
  obtain ⟨fields, f, hu, hfi, h2, h3⟩ := (S.ok t _ hT).fld hf
  have hev : a.eval (.tmp q) = .pointer (some ⟨b, 0, none⟩) := hh2.trans hp
  have hsz := (S.ok fty _ hF).size
  rw [← h3] at hsz
  refine ⟨.pointer (some ⟨b, 0 + f.offset, none⟩), fun w' _ => ?_, Rel.putPlain (n := d) hR (hN d rfl) rfl hsd ⟨b, hL, by rw [h2]; simp, fun _ j z hz => ?_⟩⟩
  · simp only [execOp, hev, Sem.run_bind, run_fieldAt hu hfi hsz (of_not_beq hc)]; rfl
  · rw [h1] at hz
    cases j with
    | zero => simp only [List.getElem?_cons_zero, Option.some.injEq] at hz; subst hz; simpa using hcs off _ hy
    | succ j => simp at hz
/-- .. of a variable that is shared. -/
theorem s_fadD {t sz by_ i off fty : Nat} {fs : List (Nat × Nat)} {zz cs : List AV} {tif : TI} {y : AV} {x : Operand} (hx : ov σ x = .dptr (.agg cs)) (hT : S.T t = some ⟨.struct fs, sz, by_, zz⟩) (hf : fs[i]? = some (off, fty)) (hF : S.T fty = some tif) (hc : Nat.beq tif.size 0 = false) (hy : cs[off]? = some y) (h1 : y.cells = [y]) :
    Step S ⟨some d, .fieldAddr t x i, ty, pos, aft, g⟩ σ (σ.put d (.dptr y)) := by
  intro w0 L0 N a w hN ⟨L, hR⟩
  obtain ⟨_, ⟨b, o, hv, hb, hlt, hcs⟩, _⟩ := hold_plain hR hx (by simp)
  obtain ⟨fields, f, hu, hfi, h2, h3⟩ := (S.ok t _ hT).fld hf
  have hsz := (S.ok fty _ hF).size
  rw [← h3] at hsz
  refine ⟨.pointer (some ⟨b, o + f.offset, none⟩), fun w' _ => ?_, Rel.putPlain (n := d) hR (hN d rfl) rfl rfl ⟨b, o + f.offset, rfl, hb, hlt, fun j z hz => ?_⟩⟩
  · simp only [execOp, hv, Sem.run_bind, run_fieldAt hu hfi hsz (of_not_beq hc)]; rfl
  · rw [h1] at hz
    cases j with
    | zero => simp only [List.getElem?_cons_zero, Option.some.injEq] at hz; subst hz; rw [h2]; exact hcs off _ hy
    | succ j => simp at hz
theorem s_fadS {t sz by_ i off fty : Nat} {fs : List (Nat × Nat)} {zz cs : List AV} {tif : TI} {y : AV} {x : Operand} (hx : ov σ x = .av (.pt false cs)) (hT : S.T t = some ⟨.struct fs, sz, by_, zz⟩) (hf : fs[i]? = some (off, fty)) (hF : S.T fty = some tif) (hc : Nat.beq tif.size 0 = false) (hy : cs[off]? = some y) (h1 : y.cells = [y]) :
    Step S ⟨some d, .fieldAddr t x i, ty, pos, aft, g⟩ σ (σ.put d (.dptr y)) := by
  intro w0 L0 N a w hN ⟨L, hR⟩
  obtain ⟨n, hn⟩ := ev_av hR hx
  generalize hev : a.eval x = v at hn
  cases hn with
  | @ptS _ _ b o u hb hlt hcell hr =>
    obtain ⟨fields, f, hu, hfi, h2, h3⟩ := (S.ok t _ hT).fld hf
    have hsz := (S.ok fty _ hF).size
    rw [← h3] at hsz
    refine ⟨.pointer (some ⟨b, o + f.offset, none⟩), fun w' _ => ?_, Rel.putPlain (n := d) hR (hN d rfl) rfl rfl ⟨b, o + f.offset, rfl, hb, hlt, fun j z hz => ?_⟩⟩
    · simp only [execOp, hev, Sem.run_bind, run_fieldAt hu hfi hsz (of_not_beq hc)]; rfl
    · rw [h1] at hz
      cases j with
      | zero => simp only [List.getElem?_cons_zero, Option.some.injEq] at hz; subst hz; rw [h2]; exact ⟨_, hcell off (List.getElem?_eq_some_iff.1 hy).1, hr off _ hy⟩
      | succ j => simp at hz
/-- .. of an element of a slice that this call owns. -/
theorem s_fadP {t sz by_ i off fty s e c : Nat} {fs : List (Nat × Nat)} {zz cs : List AV} {tif : TI} {y : AV} {x : Operand} (hx : ov σ x = .ptr s e c (.agg cs)) (hT : S.T t = some ⟨.struct fs, sz, by_, zz⟩) (hf : fs[i]? = some (off, fty)) (hF : S.T fty = some tif) (hc : Nat.beq tif.size 0 = false) (hy : cs[off]? = some y) (h1 : y.cells = [y]) (hsd : Nat.beq s d = false) :
    Step S ⟨some d, .fieldAddr t x i, ty, pos, aft, g⟩ σ (σ.put d (.fpt s (e * c + off) y)) := by
  intro w0 L0 N a w hN ⟨L, hR⟩
  obtain ⟨_, ⟨b, hL, hv, hcs⟩, _⟩ := hold_plain hR hx (by simp)
  obtain ⟨fields, f, hu, hfi, h2, h3⟩ := (S.ok t _ hT).fld hf
  have hsz := (S.ok fty _ hF).size
  rw [← h3] at hsz
  refine ⟨.pointer (some ⟨b, e * c + f.offset, none⟩), fun w' _ => ?_, Rel.putPlain (n := d) hR (hN d rfl) rfl hsd ⟨b, hL, by rw [h2], fun _ j z hz => ?_⟩⟩
  · simp only [execOp, hv, Sem.run_bind, run_fieldAt hu hfi hsz (of_not_beq hc)]; rfl
  · rw [h1] at hz
    cases j with
    | zero => simp only [List.getElem?_cons_zero, Option.some.injEq] at hz; subst hz; simpa using hcs AV.noConfusion off _ hy
    | succ j => simp at hz

/-- The whole variable is loaded. -/
theorem s_ldO {t s : Nat} {ti : TI} {cs : List AV} {y : AV} (hs : get σ s = .av (.pt true cs)) (hT : S.T t = some ti) (hy : y.cells = cs) (hf : y.fits ti = true) (hp : y.isOwn = false) (hn : y.noOwn = true) : Step S ⟨some d, .load t (.tmp s), ty, pos, aft, g⟩ σ (σ.put d (.av y)) :=
  step_val hp fun w0 L0 N a w L hR => by
    have hh := hR.hold s (own_lt hR hs (by simp))
    rw [hs] at hh
    simp only [Hold] at hh
    obtain ⟨b, hL, hpv, hlt, hcs⟩ := pt_at hh
    obtain ⟨v, h1, h2, _⟩ := load_core (S.ok t ti hT) hf (off := 0) hlt (noOwn_spec hn) (π := fun j => some ([s] ++ [j])) (fun j z hz => by rw [hy] at hz; rw [Nat.zero_add]; exact hcs j z hz)
    have hev : a.eval (.tmp s) = .pointer (some ⟨b, 0, none⟩) := hpv
    exact ⟨v, fun w' e => by simp only [execOp, hev, Instr.loadAt, Instr.sureAddr]; simp [h1 w' e], Rep.replace h2 hp⟩
theorem s_ldS {t : Nat} {ti : TI} {cs : List AV} {y : AV} {x : Operand} (hx : ov σ x = .av (.pt false cs)) (hT : S.T t = some ti) (hy : y.cells = cs) (hf : y.fits ti = true) (hp : y.isOwn = false) (hn : y.noOwn = true) : Step S ⟨some d, .load t x, ty, pos, aft, g⟩ σ (σ.put d (.av y)) :=
  step_val hp fun w0 L0 N a w L hR => by
    obtain ⟨n, hn'⟩ := ev_av hR hx
    generalize hev : a.eval x = v at hn'
    cases hn' with
    | @ptS _ _ b o u hb hlt hcell hr =>
      obtain ⟨v, h1, h2, _⟩ := load_core (S.ok t ti hT) hf (off := o) hlt (noOwn_spec hn) (π := fun _ => none) (fun j z hz => by rw [hy] at hz; exact ⟨u j, hcell j (List.getElem?_eq_some_iff.1 hz).1, hr j z hz⟩)
      exact ⟨v, fun w' e => by simp only [execOp, hev, Instr.loadAt, Instr.sureAddr]; simp [h1 w' e], h2⟩
/-- Single cells. -/
theorem s_ldO1 {t s : Nat} {ti : TI} {y : AV} (hs : get σ s = .av (.pt true [y])) (hT : S.T t = some ti) (hy : y.cells = [y]) (hf : y.fits ti = true) (hp : y.isOwn = false) (hn : y.noOwn = true) : Step S ⟨some d, .load t (.tmp s), ty, pos, aft, g⟩ σ (σ.put d (.av y)) := s_ldO hs hT hy hf hp hn
theorem s_ldS1 {t : Nat} {ti : TI} {y : AV} {x : Operand} (hx : ov σ x = .av (.pt false [y])) (hT : S.T t = some ti) (hy : y.cells = [y]) (hf : y.fits ti = true) (hp : y.isOwn = false) (hn : y.noOwn = true) : Step S ⟨some d, .load t x, ty, pos, aft, g⟩ σ (σ.put d (.av y)) := s_ldS hx hT hy hf hp hn
theorem s_ldOA {t s : Nat} {ti : TI} {cs : List AV} (hs : get σ s = .av (.pt true cs)) (hT : S.T t = some ti) (hf : (AV.agg cs).fits ti = true) (hn : (AV.agg cs).noOwn = true) : Step S ⟨some d, .load t (.tmp s), ty, pos, aft, g⟩ σ (σ.put d (.av (.agg cs))) := s_ldO hs hT rfl hf rfl hn

/-- a[i] of an array that slot s points to. -/
theorem run_indexArr {P : Program} {t e c m : Nat} {b off : Nat} {i : Int} (ht : P.underlying t = some (.array m e)) (hs : ∃ f, P.info? e = some f ∧ f.size = c) (h0 : 0 ≤ i) (h1 : i.toNat < m) (w : World) :
    (Instr.indexAt t (.pointer (some ⟨b, off, none⟩)) (.int .i64 i)).run P w = .ok (.pointer (some ⟨b, off + i.toNat * c, none⟩)) w := by
  obtain ⟨f, hf, hc⟩ := hs
  have : i < (m : Int) := by omega
  simp [Instr.indexAt, asIntOf, run_underlying ht, h0, this, Go.sizeOf, typeInfo, hf, hc, addr_add, Instr.sureAddr]
theorem TOk.arr {P : Program} {t n e sz by_ : Nat} {z : List AV} (h : TOk P t ⟨.arr n e, sz, by_, z⟩) : P.underlying t = some (.array n e) := by
  obtain ⟨d, hd, he⟩ := h.desc
  simp only [TK.ofDesc] at he
  rw [hd, he]
theorem s_ixaA {α : Type} {f : α → AV} {l : List α} {r : α} {t e m sz by_ s : Nat} {z : List AV} {ti : TI} {i : Operand} {n : Int} (hs : get σ s = .av (.pt true (l.map f))) (hi : ov σ i = .av (.int n)) (hT : S.T t = some ⟨.arr m e, sz, by_, z⟩) (hE : S.T e = some ti) (hc : Nat.beq ti.size 1 = true) (h0 : 0 ≤ n) (hr : l[n.toNat]? = some r) (h1 : (f r).cells = [f r]) (hm : n.toNat < m) (hsd : Nat.beq s d = false) :
    Step S ⟨some d, .indexAddr t (.tmp s) i, ty, pos, aft, g⟩ σ (σ.put d (.fpt s n.toNat (f r))) := by
  intro w0 L0 N a w hN ⟨L, hR⟩
  have hh := hR.hold s (own_lt hR hs (by simp))
  rw [hs] at hh
  simp only [Hold] at hh
  obtain ⟨b, hL, hp, _, hcs⟩ := pt_at hh
  have hev : a.eval (.tmp s) = .pointer (some ⟨b, 0, none⟩) := hp
  have hsz := (S.ok e _ hE).size
  rw [Nat.eq_of_beq_eq_true hc] at hsz
  refine ⟨.pointer (some ⟨b, 0 + n.toNat * 1, none⟩), fun w' _ => ?_, Rel.putPlain (n := d) hR (hN d rfl) rfl hsd ⟨b, hL, by simp, fun _ j z hz => ?_⟩⟩
  · simp only [execOp, hev, ev_int hR hi, Sem.run_bind, run_indexArr (S.ok t _ hT).arr hsz h0 hm]; rfl
  · rw [h1] at hz
    cases j with
    | zero =>
      simp only [List.getElem?_cons_zero, Option.some.injEq] at hz; subst hz
      simpa using hcs n.toNat (f r) (by rw [List.getElem?_map, hr]; rfl)
    | succ j => simp at hz
end
end FM
