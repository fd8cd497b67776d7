/- Stores of rows, stores in rows, rows taken out of a table. No program in sight. -/
import Derived.Test.YtohgcgedbhlnfaaFk
import Derived.Test.YtohgcgedbhlnfaaFm
namespace FM
open Go Go.RowKit
set_option linter.unusedVariables false
section
variable {S : Sys} {N : Nat} {σ : St}

/-- One element of an owned slice is stored. -/
theorem set_core {t : Nat} {ti : TI} (hT : S.T t = some ti) {L : Nat → Lab} {w : World} {p : List Nat} {c i b : Nat} {xs : List AV} {z : AV} {v zv : Value} (hL : L b = .my p) (hinj : ∀ b b' p, L b = .my p → L b' = .my p → b = b')
    (hh : Rep L w (some p) (.sl true c xs) v) (hi : i < xs.length) (hzc : z.cells.length = c) (hc3 : ti.size = c)
    (v1 : zv.cells.size = z.cells.length) (v2 : ∀ u ∈ zv.cells.toList, u.oneCell' = true) (v3 : ∀ (j : Nat) y, z.cells[j]? = some y → ∃ u, zv.cells[j]? = some u ∧ (Rep L w none y u ∨ y = .dead)) :
    ∃ W : World, (Instr.storeAt t (.pointer (some ⟨b, i * c, none⟩)) zv).run S.P w = .ok () W ∧ W.heap.size = w.heap.size ∧ W.os = w.os ∧ W.tape = w.tape ∧ W.output = w.output ∧ (∀ k, k ≠ b → W.heap[k]? = w.heap[k]?) ∧
      (∀ (j : Nat) u, zv.cells[j]? = some u → W.cell? ⟨b, i * c + j, none⟩ = some u) ∧ Rep L W (some p) (.sl true c (xs.set i z)) v := by
  cases hh with
  | slE h => simp at hi
  | @slO p c xs b' cap arr e u hL' hb hcap hsz hcx hcell hr =>
    have := hinj _ _ _ hL hL'
    subst this
    have hmul : (i + 1) * c ≤ cap * c := Nat.mul_le_mul_right _ (by omega)
    rw [Nat.add_mul, Nat.one_mul] at hmul
    have hvs : zv.cells.size = c := by omega
    obtain ⟨A, hrun, hAsz, harr⟩ : ∃ A : Array Value, (Instr.storeAt t (.pointer (some ⟨b, i * c, none⟩)) zv).run S.P w = .ok () (w.setRow b A) ∧ A.size = arr.size ∧ ∀ j, A[j]? = if i * c ≤ j ∧ j < i * c + zv.cells.size then zv.cells[j - i * c]? else arr[j]? :=
      ⟨_, run_store_at (S := S) hT (off := i * c) (v := zv) hb (by omega) v2 (by omega), by simp; omega, fun j => by
        have := getElem?_splice arr.toList zv.cells.toList (i * c) j (by simp; omega)
        simpa using this⟩
    have hother : ∀ k, k ≠ b → (w.setRow b A).heap[k]? = w.heap[k]? := fun k hk => setRow_other w b k A hk
    have hnew := setRow_heap w b arr A e (0, 0) hb
    have hsz' : (w.setRow b A).heap.size = w.heap.size := by simp
    have ho : (w.setRow b A).os = w.os := rfl
    have ht : (w.setRow b A).tape = w.tape := rfl
    have hu : (w.setRow b A).output = w.output := rfl
    generalize w.setRow b A = W at hrun hother hnew hsz' ho ht hu
    refine ⟨W, hrun, hsz', ho, ht, hu, hother, fun j u' hj => ?_, ?_⟩
    · rw [cell_of_row W b _ A e (0, 0) hnew, harr]
      have : j < zv.cells.size := (Array.getElem?_eq_some_iff.1 hj).1
      rw [if_pos (by omega), show i * c + j - i * c = j by omega]; exact hj
    have hlen : (xs.set i z).length = xs.length := by simp
    have hslots : ∀ π (y : AV) (u : Value), Rep L w π y u → (∀ p', π = some p' → ∃ o q, p' = p ++ o :: q) → Rep L W π y u := fun π y u h hπ =>
      h.frame (by omega) ho ht hu (fun k hk _ => ⟨hk, hother k (fun e => by subst e; rw [hL] at hk; cases hk)⟩) π fun p' hp' => ⟨p', hp', fun k q hk => ⟨hk, hother k (fun e => by
        subst e
        obtain ⟨o, q', rfl⟩ := hπ p' hp'
        rw [hL] at hk; injection hk with hk
        have := congrArg List.length hk
        simp at this)⟩⟩
    rw [← hlen]
    refine .slO (fun o => (A[o]?).getD undef) hL hnew (by rw [hlen]; exact hcap) (by rw [hAsz]; exact hsz) (fun y hy => ?_) (fun o ho => ?_) (fun o y hy => ?_)
    · rcases List.mem_or_eq_of_mem_set hy with h | h
      · exact hcx y h
      · rw [h]; omega
    · have hlt : o < A.size := by
        rw [hAsz, hsz]
        rw [hlen] at ho
        exact Nat.lt_of_lt_of_le ho (Nat.mul_le_mul_right _ hcap)
      simp [hlt]
    · rw [harr]
      rcases flat_set hcx (by omega) o y hy with ⟨h1, h2, h3, h4⟩ | ⟨h1, h2⟩
      · rw [if_pos (by omega)]
        obtain ⟨u', hu', hr'⟩ := v3 _ y h4
        rw [hu']
        rcases hr' with hr' | rfl
        · exact (hslots none y u' hr' (fun p hp => by cases hp)).any _
        · exact .dead
      · rw [if_neg (by rw [hvs]; exact h1)]
        have ho : o < xs.length * c := by rw [← flat_length hcx]; exact (List.getElem?_eq_some_iff.1 h2).1
        rw [hcell o ho]
        exact hslots _ y _ (hr o y h2) (fun p hp => by cases hp; exact ⟨o, [], rfl⟩)

/-- What lies at element i of an owned slice of single cells. -/
theorem row_at {L : Nat → Lab} {w : World} {p : List Nat} {i : Nat} {xs : List AV} {y : AV} {v : Value} (hh : Rep L w (some p) (.sl true 1 xs) v) (hi : xs[i]? = some y) (h1 : y.cells = [y]) :
    ∃ b arr e u cap, L b = .my p ∧ w.heap[b]? = some (.cells arr e (0, 0)) ∧ v = .slice (some ⟨b, 0, none⟩) xs.length cap ∧ arr[i]? = some u ∧ Rep L w (some (p ++ [i])) y u := by
  have hlt : i < xs.length := (List.getElem?_eq_some_iff.1 hi).1
  cases hh with
  | slE h => simp at hi
  | @slO p c xs b' cap arr e u hL' hb hcap hsz hcx hcell hr =>
    refine ⟨b', arr, e, u i, cap, hL', hb, rfl, hcell i (by omega), hr i y ?_⟩
    have := flat_get hcx hi (j := 0) (y := y) (by rw [h1]; rfl)
    simpa using this

/-- s[i][j] = v: a row of a slice that slot s owns. -/
theorem e_stR {t : Nat} {ti : TI} {x v : Operand} {s i j : Nat} {y0 z : AV} {xs ys : List AV} {ty : Nat} {pos : String} {aft : Array Edge} {g : Option (Nat × Bool)} (hx : ov σ x = .rptr s i j y0) (hs : get σ s = .av (.sl true 1 xs)) (hxi : xs[i]? = some (.sl true 1 ys)) (hT : S.T t = some ti) (hv : ov σ v = .av z) (hz : z.isOwn = false) (hok : z.varOk = true) (hc : Nat.beq z.cells.length 1 = true) (hc2 : Nat.beq ti.size 1 = true) (hj : j < ys.length) :
    EStep S ⟨none, .store t x v, ty, pos, aft, g⟩ σ (σ.upd true s (.av (.sl true 1 (xs.set i (.sl true 1 (ys.set j z)))))) := by
  intro w0 L0 N a w _ ⟨L, hR⟩
  have hc1 := Nat.eq_of_beq_eq_true hc
  have hc3 := Nat.eq_of_beq_eq_true hc2
  obtain ⟨_, ⟨b, hL, hp, _⟩, _⟩ := hold_plain hR hx (by simp)
  have hsN := own_lt hR hs (by simp)
  have hh := hR.hold s hsN
  rw [hs] at hh
  simp only [Hold] at hh
  obtain ⟨v1, v2, v3⟩ := val_cells hR hv hz hok
  obtain ⟨b1, arr1, e1, u1, cap1, hb1, hheap1, hsv, harr1, hrow⟩ := row_at hh hxi rfl
  obtain ⟨W, hrun, hsz, ho, ht, hu, hother, _, hrow'⟩ := set_core hT (L := L) (p := [s] ++ [i]) hL hR.lok.inj hrow hj hc1 hc3 v1 v2 (fun j y hy => by obtain ⟨u, h1, h2⟩ := v3 j y hy; exact ⟨u, h1, .inl h2⟩)
  rw [Nat.mul_one] at hrun
  have hbb : b1 ≠ b := fun e => by subst e; rw [hL] at hb1; simp at hb1
  refine ⟨undef, W, .inr ⟨by simp only [execOp, hp, Sem.run_bind, hrun]; rfl, rfl⟩, L, hR.write (b := b) (q0 := [i]) hsN hL hsz ho ht hu hother ?_ true (fun _ => by simp)⟩
  generalize a.tmps.getD s undef = sv at hh hsv
  cases hh with
  | slE h => simp at hxi
  | @slO p c xs b' cap arr e u hL' hb hcap hsz' hcx hcell hr =>
    have := hR.lok.inj _ _ _ hL' hb1
    subst this
    rw [hheap1] at hb
    injection hb with hb; injection hb with hb he _; subst hb; subst he
    have hlen : (xs.set i (.sl true 1 (ys.set j z))).length = xs.length := by simp
    have hi : i < xs.length := (List.getElem?_eq_some_iff.1 hxi).1
    rw [← hlen]
    refine .slO u hL' (by rw [hother _ hbb]; exact hheap1) (by rw [hlen]; exact hcap) hsz' (fun y hy => ?_) (fun o ho => by rw [hlen] at ho; exact hcell o ho) (fun o y hy => ?_)
    · rcases List.mem_or_eq_of_mem_set hy with h | h
      · exact hcx y h
      · rw [h]; rfl
    · rcases flat_set hcx (by rfl) o y hy with ⟨h1, h2, h3, h4⟩ | ⟨h1, h2⟩
      · have ho : o = i := by omega
        subst ho
        simp only [Nat.mul_one, Nat.sub_self, AV.cells, List.getElem?_cons_zero, Option.some.injEq] at h4
        subst h4
        have : u o = u1 := by have := hcell o (by omega); rw [harr1] at this; exact (Option.some.inj this).symm
        rw [this]; exact hrow'
      · refine Rep.frame (by omega) ho ht hu (fun k hk _ => ⟨hk, hother k (fun e => by subst e; rw [hL] at hk; cases hk)⟩) (hr o y h2) _ fun p' hp' => ⟨p', hp', fun k q hk => ⟨hk, hother k (fun e => ?_)⟩⟩
        cases hp'
        subst e
        rw [hL] at hk
        injection hk with hk
        simp at hk
        omega

/-! ### what slot t0 owns becomes element i of slot s -/
def φinto (s i t0 : Nat) (p : List Nat) : Option (List Nat) :=
  match strip [t0] p with
  | some q => some (s :: i :: q)
  | none => match strip [s, i] p with
    | some _ => none
    | none => match p with
      | [] => none
      | a :: q => some (a :: q)
theorem φinto_cases {s i t0 : Nat} {p r : List Nat} (h : φinto s i t0 p = some r) : (∃ q, p = t0 :: q ∧ r = s :: i :: q) ∨ (p = r ∧ r ≠ [] ∧ strip [t0] p = none ∧ strip [s, i] p = none) := by
  unfold φinto at h
  cases h1 : strip [t0] p with
  | some q => rw [h1] at h; injection h with h; exact .inl ⟨q, strip_spec.1 h1, h.symm⟩
  | none =>
    rw [h1] at h
    simp only at h
    cases h2 : strip [s, i] p with
    | some q => rw [h2] at h; cases h
    | none =>
      rw [h2] at h
      cases p with
      | nil => cases h
      | cons a q => injection h with h; subst h; exact .inr ⟨rfl, by simp, rfl, rfl⟩
theorem φinto_inj {s i t0 : Nat} : Inj (φinto s i t0) := by
  refine ⟨fun p p' r h h' => ?_, fun p h => ?_⟩
  · rcases φinto_cases h with ⟨q, e1, e2⟩ | ⟨e1, e2, e3, e4⟩ <;> rcases φinto_cases h' with ⟨q', e1', e2'⟩ | ⟨e1', e2', e3', e4'⟩
    · rw [e2] at e2'; cases e2'; rw [e1, e1']
    · subst e1'; rw [e2] at e4'
      have : strip [s, i] (s :: i :: q) = some q := strip_spec.2 rfl
      rw [this] at e4'; cases e4'
    · subst e1; rw [e2'] at e4
      have : strip [s, i] (s :: i :: q') = some q' := strip_spec.2 rfl
      rw [this] at e4; cases e4
    · rw [e1, e1']
  · rcases φinto_cases h with ⟨q, e1, e2⟩ | ⟨e1, e2, _⟩
    · cases e2
    · exact e2 rfl
theorem φinto_keep {s i t0 a : Nat} {q : List Nat} (h1 : t0 ≠ a) (h2 : strip [s, i] (a :: q) = none) : φinto s i t0 (a :: q) = some (a :: q) := by
  unfold φinto
  have : strip [t0] (a :: q) = none := by simp only [strip, not_beq h1, cond_false]
  rw [this, h2]
theorem LOk.remap {L0 L : Nat → Lab} {w0 w : World} (h : LOk L0 w0 L w) {φ : List Nat → Option (List Nat)} (hφ : Inj φ) : LOk L0 w0 (FM.remap φ L) w where
  lt b p hb := by obtain ⟨p', h1, _⟩ := remap_my hb; exact h.lt b _ h1
  inj b b' p hb hb' := by
    obtain ⟨p1, h1, h2⟩ := remap_my hb
    obtain ⟨p2, h1', h2'⟩ := remap_my hb'
    have := hφ.inj _ _ _ h2 h2'
    subst this
    exact h.inj _ _ _ h1 h1'
  head b p hb := by obtain ⟨p', _, h2⟩ := remap_my hb; intro e; subst e; exact hφ.ne _ h2
  old b p hlt hb := by obtain ⟨p', h1, _⟩ := remap_my hb; exact h.old b _ hlt h1
  fo b hb := remap_fo.trans (h.fo b hb)
  new b hb hf := h.new b hb (remap_fo.1 hf)

theorem RelL.into {w0 : World} {L0 : Nat → Lab} {a : Act} {w : World} {L : Nat → Lab} (hR : RelL S w0 L0 N σ a w L) {s i t0 : Nat} {r : AV} {xs : List AV} (hs : get σ s = .av (.sl true 1 xs)) (ht0 : get σ t0 = .av r) (hr1 : r.cells = [r]) (hst : t0 ≠ s) (hi : i < xs.length)
    (hcell : ∀ b, L b = .my [s] → w.cell? ⟨b, i, none⟩ = some (a.tmps.getD t0 undef)) : RelL S w0 L0 N ((σ.put t0 .none).upd false s (.av (.sl true 1 (xs.set i r)))) a w (remap (φinto s i t0) L) := by
  have hsN := own_lt hR hs (by simp)
  have htN := own_lt hR ht0 (by simp)
  have hks : ∀ b, L b = .my [s] → remap (φinto s i t0) L b = .my [s] := fun b hb => remap_to hb (φinto_keep hst (by simp [strip]))
  refine ⟨hR.defers, hR.size, hR.keep, hR.lok.remap φinto_inj, fun n hn => ?_, fun n hn => ?_, hR.fix, hR.glob⟩
  · simp only [get, kill_eq]
    by_cases hsn : s = n
    · subst hsn
      rw [Nat.beq_refl, cond_true]
      have hh := hR.hold s hn
      rw [hs] at hh
      have ht := hR.hold t0 htN
      rw [ht0] at ht
      simp only [Hold] at hh ht ⊢
      generalize a.tmps.getD s undef = sv at hh
      cases hh with
      | slE h => simp at hi
      | @slO p c xs b cap arr e u hL hb hcap hsz hcx hcl hr =>
        have hlen : (xs.set i r).length = xs.length := by simp
        have hci := hcell b hL
        rw [cell_of_row w b i arr e (0, 0) hb] at hci
        rw [← hlen]
        refine .slO (fun o => if o = i then a.tmps.getD t0 undef else u o) (hks b hL) hb (by rw [hlen]; exact hcap) hsz (fun y hy => ?_) (fun o ho => ?_) (fun o y hy => ?_)
        · rcases List.mem_or_eq_of_mem_set hy with h | h
          · exact hcx y h
          · rw [h, hr1]; rfl
        · split
          · rename_i e; subst e; exact hci
          · rw [hlen] at ho; exact hcl o ho
        · rcases flat_set hcx (by rw [hr1]; rfl) o y hy with ⟨h1, h2, h3, h4⟩ | ⟨h1, h2⟩
          · have ho : o = i := by omega
            subst ho
            rw [hr1] at h4
            simp only [Nat.mul_one, Nat.sub_self, List.getElem?_cons_zero, Option.some.injEq] at h4
            subst h4
            simp only [if_pos]
            refine Rep.frame (Nat.le_refl _) rfl rfl rfl (fun k h1 _ => ⟨remap_sh h1, rfl⟩) ht _ fun p hp => ?_
            cases hp
            refine ⟨_, rfl, fun k q hk => ⟨remap_to hk ?_, rfl⟩⟩
            unfold φinto
            rw [strip_spec.2 rfl]; rfl
          · have hne : o ≠ i := by omega
            simp only [if_neg hne]
            refine Rep.frame (Nat.le_refl _) rfl rfl rfl (fun k h1 _ => ⟨remap_sh h1, rfl⟩) (hr o y h2) _ fun p hp => ?_
            cases hp
            refine ⟨_, rfl, fun k q hk => ⟨remap_to hk ?_, rfl⟩⟩
            refine φinto_keep hst ?_
            simp [strip, not_beq (Ne.symm hne), Nat.beq_refl]
    · rw [not_beq hsn, cond_false]
      by_cases htn : t0 = n
      · subst htn; rw [Nat.beq_refl, cond_true]; trivial
      · rw [not_beq htn, cond_false]
        cases hd : (get σ n).dep t0 with
        | true => trivial
        | false =>
          rw [cond_false]
          have hh := hR.hold n hn
          have key : ∀ tv : TV, tv.dep s = false → tv.dep t0 = false → Hold L w a.tmps n tv (a.tmps.getD n undef) → Hold (remap (φinto s i t0) L) w a.tmps n tv (a.tmps.getD n undef) := fun tv hds hdt hh =>
            Hold.relab (good := fun m => m ≠ s ∧ m ≠ t0) (Nat.le_refl _) rfl rfl rfl (fun k h1 _ => ⟨remap_sh h1, rfl⟩) (fun k m q h1 h2 => ⟨remap_to h1 (φinto_keep (fun e => h2.2 e.symm) (by simp only [strip, not_beq (fun e => h2.1 e.symm : s ≠ m), cond_false])), rfl⟩)
              (fun _ _ => rfl) ⟨fun e => hsn e.symm, fun e => htn e.symm⟩ (fun m hm => ⟨fun e => (by subst e; rw [hds] at hm; cases hm), fun e => (by subst e; rw [hdt] at hm; cases hm)⟩) hh
          generalize get σ n = tv at hh hd
          cases tv with
          | none => trivial
          | av x => exact key _ rfl rfl hh
          | ref s' => exact hh
          | rref s' q y =>
            simp only [TV.stale]
            cases hb' : Nat.beq s' s with
            | false => exact key _ hb' hd hh
            | true => trivial
          | ptr s' q c y =>
            simp only [TV.stale]
            cases hb' : Nat.beq s' s with
            | false => exact key _ hb' hd hh
            | true =>
              have := Nat.eq_of_beq_eq_true hb'; subst this
              obtain ⟨k, h1, h2, _⟩ := hh; exact ⟨k, hks k h1, h2, fun h => absurd rfl h⟩
          | fpt s' o y =>
            simp only [TV.stale]
            cases hb' : Nat.beq s' s with
            | false => exact key _ hb' hd hh
            | true =>
              have := Nat.eq_of_beq_eq_true hb'; subst this
              obtain ⟨k, h1, h2, _⟩ := hh; exact ⟨k, hks k h1, h2, fun h => absurd rfl h⟩
          | rptr s' q j y =>
            simp only [TV.stale]
            cases hb' : Nat.beq s' s with
            | false => exact key _ hb' hd hh
            | true => trivial
          | dptr x => exact key _ rfl rfl hh
          | bdp s' x =>
            simp only [TV.stale]
            cases hb' : Nat.beq s' s with
            | false => exact key _ hb' hd hh
            | true => trivial
          | bor s' x =>
            simp only [TV.stale]
            cases hb' : Nat.beq s' s with
            | false => exact key _ hb' hd hh
            | true => trivial
          | clo f caps => exact hh
  · simp only [get, kill_eq]
    rw [not_beq (show s ≠ n by omega), cond_false, not_beq (show t0 ≠ n by omega), cond_false, hR.out n hn]; rfl

/-- s[i] = what slot t0 owns. -/
theorem e_stO {t : Nat} {ti : TI} {x : Operand} {s i t0 : Nat} {y0 r : AV} {xs : List AV} {ty : Nat} {pos : String} {aft : Array Edge} {g : Option (Nat × Bool)} (hx : ov σ x = .ptr s i 1 y0) (hs : get σ s = .av (.sl true 1 xs)) (ht0 : get σ t0 = .av r) (hok : r.cellOk = true) (hst : Nat.beq t0 s = false) (hT : S.T t = some ti) (hc2 : Nat.beq ti.size 1 = true) (hi : i < xs.length) :
    EStep S ⟨none, .store t x (.tmp t0), ty, pos, aft, g⟩ σ (((σ.upd false s (.av (.sl true 1 (xs.set i .dead)))).put t0 .none).upd false s (.av (.sl true 1 ((xs.set i .dead).set i r)))) := by
  intro w0 L0 N a w _ ⟨L, hR⟩
  have hc3 := Nat.eq_of_beq_eq_true hc2
  obtain ⟨_, ⟨b, hL, hp, _⟩, _⟩ := hold_plain hR hx (by simp)
  have hsN := own_lt hR hs (by simp)
  have htN := own_lt hR ht0 (by simp)
  have hh := hR.hold s hsN
  have ht := hR.hold t0 htN
  rw [hs] at hh
  rw [ht0] at ht
  simp only [Hold] at hh ht
  obtain ⟨c1, c2, c3⟩ := cellOk_spec ht hok
  obtain ⟨W, hrun, hsz, ho, htp, hu, hother, hcell, hrep⟩ := set_core hT (L := L) (p := [s]) (z := .dead) (zv := a.tmps.getD t0 undef) hL hR.lok.inj hh hi rfl hc3 (by rw [c1]; rfl) (fun u hu => by rw [c1] at hu; rw [List.mem_singleton.1 hu]; exact c2) (fun j y hy => by
    rw [c1]
    cases j with
    | zero => simp only [AV.cells, List.getElem?_cons_zero, Option.some.injEq] at hy; subst hy; exact ⟨_, rfl, .inr rfl⟩
    | succ j => simp [AV.cells] at hy)
  have hW := hR.write (b := b) (q0 := []) hsN hL hsz ho htp hu hother hrep false (fun h => by cases h)
  have hst' : t0 ≠ s := of_not_beq hst
  have hev : a.eval (.tmp t0) = a.tmps.getD t0 undef := rfl
  refine ⟨undef, W, .inr ⟨by simp only [execOp, hp, Sem.run_bind, hev, hrun]; rfl, rfl⟩, _, hW.into (s := s) (i := i) (t0 := t0) (r := r) (xs := xs.set i .dead) ?_ ?_ c3 hst' (by simpa using hi) fun b' hb' => ?_⟩
  · simp only [get, Nat.beq_refl, cond_true]
  · simp only [get, not_beq hst'.symm, cond_false, ht0]; rfl
  · have := hR.lok.inj _ _ _ hb' hL
    subst this
    have := hcell 0 (a.tmps.getD t0 undef) (by rw [c1]; rfl)
    simpa using this
theorem set_map_set {α : Type} {f : α → AV} {l : List α} {i : Nat} {z : AV} {r : α} : ((l.map f).set i z).set i (f r) = (l.set i r).map f := by
  rw [List.set_set, List.map_set]
theorem e_stOM {α : Type} {f : α → AV} {l : List α} {q : α} {t : Nat} {ti : TI} {x : Operand} {s i t0 : Nat} {y0 : AV} {ty : Nat} {pos : String} {aft : Array Edge} {g : Option (Nat × Bool)} (hx : ov σ x = .ptr s i 1 y0) (hs : get σ s = .av (.sl true 1 (l.map f))) (ht0 : get σ t0 = .av (f q)) (hok : (f q).cellOk = true) (hst : Nat.beq t0 s = false) (hT : S.T t = some ti) (hc2 : Nat.beq ti.size 1 = true) (hi : i < l.length) :
    EStep S ⟨none, .store t x (.tmp t0), ty, pos, aft, g⟩ σ (((σ.upd false s (.av (.sl true 1 ((l.map f).set i .dead)))).put t0 .none).upd false s (.av (.sl true 1 ((l.set i q).map f)))) := by
  rw [← set_map_set (z := .dead)]
  exact e_stO hx hs ht0 hok hst hT hc2 (by simpa using hi)
/-- .. where element i was taken out before. -/
theorem e_stOD {α : Type} {f : α → AV} {l : List α} {q : α} {t : Nat} {ti : TI} {x : Operand} {s i t0 : Nat} {y0 : AV} {ty : Nat} {pos : String} {aft : Array Edge} {g : Option (Nat × Bool)} (hx : ov σ x = .ptr s i 1 y0) (hs : get σ s = .av (.sl true 1 ((l.map f).set i .dead))) (ht0 : get σ t0 = .av (f q)) (hok : (f q).cellOk = true) (hst : Nat.beq t0 s = false) (hT : S.T t = some ti) (hc2 : Nat.beq ti.size 1 = true) (hi : i < l.length) :
    EStep S ⟨none, .store t x (.tmp t0), ty, pos, aft, g⟩ σ (((σ.upd false s (.av (.sl true 1 ((l.map f).set i .dead)))).put t0 .none).upd false s (.av (.sl true 1 ((l.set i q).map f)))) := by
  have := e_stO (ty := ty) (pos := pos) (aft := aft) (g := g) hx hs ht0 hok hst hT hc2 (by simpa using hi)
  have e1 : (((l.map f).set i AV.dead).set i .dead) = (l.map f).set i .dead := List.set_set ..
  rw [e1, set_map_set] at this
  exact this
theorem e_stRM {f : List Int → AV} (hf : ∀ r, f r = .sl true 1 (r.map .int)) {l : List (List Int)} {ys : List Int} {t : Nat} {ti : TI} {x v : Operand} {s i j : Nat} {y0 : AV} {n : Int} {ty : Nat} {pos : String} {aft : Array Edge} {g : Option (Nat × Bool)} (hx : ov σ x = .rptr s i j y0) (hs : get σ s = .av (.sl true 1 (l.map f))) (hxi : l[i]? = some ys) (hT : S.T t = some ti) (hv : ov σ v = .av (.int n)) (hc2 : Nat.beq ti.size 1 = true) (hj : j < ys.length) :
    EStep S ⟨none, .store t x v, ty, pos, aft, g⟩ σ (σ.upd true s (.av (.sl true 1 ((l.set i (ys.set j n)).map f)))) := by
  rw [List.map_set, hf, List.map_set]
  exact e_stR hx hs (by rw [List.getElem?_map, hxi, Option.map_some, hf]) hT hv rfl rfl rfl hc2 (by simpa using hj)

/-! ### a row taken out of a table -/
theorem RelL.takeRow {w0 : World} {L0 : Nat → Lab} {a : Act} {w : World} {L : Nat → Lab} (hR : RelL S w0 L0 N σ a w L) {s i d : Nat} {y : AV} {xs : List AV} (hs : get σ s = .av (.sl true 1 xs)) (hd : get σ d = .rref s i y) (hy : y ≠ .dead) (hsd : s ≠ d) (hi : i < xs.length) :
    RelL S w0 L0 N ((σ.upd false s (.av (.sl true 1 (xs.set i .dead)))).put d (.av y)) a w (mvl [s, i] d L) := by
  have hsN := own_lt hR hs (by simp)
  have hdN := own_lt hR hd (by simp)
  have hks : ∀ b, L b = .my [s] → mvl [s, i] d L b = .my [s] := fun b hb => mvl_keep hb hsd (by simp [strip])
  refine ⟨hR.defers, hR.size, hR.keep, hR.lok.mvl _ _, fun n hn => ?_, fun n hn => ?_, hR.fix, hR.glob⟩
  · simp only [get, kill_eq]
    by_cases hnd : d = n
    · subst hnd
      rw [Nat.beq_refl, cond_true]
      have := hR.hold d hdN
      rw [hd] at this
      obtain ⟨b, h1, h2, h3⟩ := this
      refine Rep.frame (Nat.le_refl _) rfl rfl rfl (fun b h1 _ => ⟨mvl_sh h1, rfl⟩) (h3 hy) _ fun p hp => ?_
      cases hp
      exact ⟨[d], rfl, fun b q hb => ⟨mvl_to hb, rfl⟩⟩
    · rw [not_beq hnd, cond_false]
      by_cases hns : s = n
      · subst hns
        rw [Nat.beq_refl, cond_true]
        simp only [TV.dep, cond_false]
        have hh := hR.hold s hn
        rw [hs] at hh
        simp only [Hold] at hh ⊢
        generalize a.tmps.getD s undef = sv at hh
        cases hh with
        | slE h => simp at hi
        | @slO p c xs b cap arr e u hL hb hcap hsz hcx hcl hr =>
          have hlen : (xs.set i .dead).length = xs.length := by simp
          rw [← hlen]
          refine .slO u (hks b hL) hb (by rw [hlen]; exact hcap) hsz (fun z hz => ?_) (fun o ho => by rw [hlen] at ho; exact hcl o ho) (fun o z hz => ?_)
          · rcases List.mem_or_eq_of_mem_set hz with h | h
            · exact hcx z h
            · rw [h]; rfl
          · rcases flat_set (z := .dead) hcx rfl o z hz with ⟨h1, h2, h3, h4⟩ | ⟨h1, h2⟩
            · have ho : o - i * 1 = 0 := by omega
              rw [ho] at h4
              simp only [AV.cells, List.getElem?_cons_zero, Option.some.injEq] at h4
              subst h4; exact .dead
            · have hne : o ≠ i := by omega
              refine Rep.frame (Nat.le_refl _) rfl rfl rfl (fun k h1 _ => ⟨mvl_sh h1, rfl⟩) (hr o z h2) _ fun p hp => ?_
              cases hp
              refine ⟨_, rfl, fun k q hk => ⟨?_, rfl⟩⟩
              exact mvl_keep (t := s) (q := o :: q) hk hsd (by simp [strip, not_beq (Ne.symm hne), Nat.beq_refl])
      · rw [not_beq hns, cond_false]
        have hh := hR.hold n hn
        have key : ∀ tv : TV, tv.dep s = false → tv.dep d = false → Hold L w a.tmps n tv (a.tmps.getD n undef) → Hold (mvl [s, i] d L) w a.tmps n tv (a.tmps.getD n undef) := fun tv hds hdt hh =>
          Hold.relab (good := fun m => m ≠ s ∧ m ≠ d) (Nat.le_refl _) rfl rfl rfl (fun k h1 _ => ⟨mvl_sh h1, rfl⟩) (fun k m q h1 h2 => ⟨mvl_keep h1 h2.2 (by simp only [strip, not_beq (fun e => h2.1 e.symm : s ≠ m), cond_false]), rfl⟩)
            (fun _ _ => rfl) ⟨fun e => hns e.symm, fun e => hnd e.symm⟩ (fun m hm => ⟨fun e => (by subst e; rw [hds] at hm; cases hm), fun e => (by subst e; rw [hdt] at hm; cases hm)⟩) hh
        generalize get σ n = tv at hh
        cases tv with
        | none => trivial
        | av x => exact key _ rfl rfl hh
        | ref s' =>
          simp only [TV.stale, TV.dep]
          cases Nat.beq s' d <;> first | exact hh | trivial
        | rref s' q y =>
          simp only [TV.stale]
          cases hb' : Nat.beq s' s with
          | true => trivial
          | false =>
            simp only [cond_false, TV.dep]
            cases hd' : Nat.beq s' d with
            | true => trivial
            | false => exact key _ hb' hd' hh
        | ptr s' q c y =>
          simp only [TV.stale]
          cases hb' : Nat.beq s' s with
          | true =>
            have := Nat.eq_of_beq_eq_true hb'; subst this
            simp only [cond_true, TV.dep, not_beq hsd, cond_false]
            obtain ⟨k, h1, h2, _⟩ := hh; exact ⟨k, hks k h1, h2, fun h => absurd rfl h⟩
          | false =>
            simp only [cond_false, TV.dep]
            cases hd' : Nat.beq s' d with
            | true => trivial
            | false => exact key _ hb' hd' hh
        | fpt s' o y =>
          simp only [TV.stale]
          cases hb' : Nat.beq s' s with
          | true =>
            have := Nat.eq_of_beq_eq_true hb'; subst this
            simp only [cond_true, TV.dep, not_beq hsd, cond_false]
            obtain ⟨k, h1, h2, _⟩ := hh; exact ⟨k, hks k h1, h2, fun h => absurd rfl h⟩
          | false =>
            simp only [cond_false, TV.dep]
            cases hd' : Nat.beq s' d with
            | true => trivial
            | false => exact key _ hb' hd' hh
        | rptr s' q j y =>
          simp only [TV.stale]
          cases hb' : Nat.beq s' s with
          | true => trivial
          | false =>
            simp only [cond_false, TV.dep]
            cases hd' : Nat.beq s' d with
            | true => trivial
            | false => exact key _ hb' hd' hh
        | dptr x => exact key _ rfl rfl hh
        | bdp s' x =>
          simp only [TV.stale]
          cases hb' : Nat.beq s' s with
          | true => trivial
          | false =>
            simp only [cond_false, TV.dep]
            cases hd' : Nat.beq s' d with
            | true => trivial
            | false => exact key _ hb' hd' hh
        | bor s' x =>
          simp only [TV.stale]
          cases hb' : Nat.beq s' s with
          | true => trivial
          | false =>
            simp only [cond_false, TV.dep]
            cases hd' : Nat.beq s' d with
            | true => trivial
            | false => exact key _ hb' hd' hh
        | clo f caps =>
          simp only [TV.stale, TV.dep]
          cases caps.any fun s => Nat.beq s d <;> first | exact hh | trivial
  · simp only [get, kill_eq]
    rw [not_beq (show d ≠ n by omega), cond_false, not_beq (show s ≠ n by omega), cond_false, hR.out n hn]; rfl
/-- append to a row that still stands in its table: it is taken out first. -/
theorem J.takeRow {q : Bool} {ops : Array Oper} {l : List Oper} {K : St → Prop} {dd t s i : Nat} {y : AV} {xs : List AV} {x2 : Operand} {ts : Array Nat} {ty : Nat} {pos : String} {aft : Array Edge} {g : Option (Nat × Bool)} (ht : get σ t = .rref s i y) (hs : get σ s = .av (.sl true 1 xs)) (hy : y ≠ .dead) (hst : Nat.beq s t = false) (hi : i < xs.length)
    (h : J q S N ops (⟨some dd, .call ⟨.builtin .append, #[.tmp t, x2], ts⟩, ty, pos, aft, g⟩ :: l) K ((σ.upd false s (.av (.sl true 1 (xs.set i .dead)))).put t (.av y))) : J q S N ops (⟨some dd, .call ⟨.builtin .append, #[.tmp t, x2], ts⟩, ty, pos, aft, g⟩ :: l) K σ := by
  unfold J at *
  cases q with
  | true => exact fun hd w0 L0 Q a w hQ ⟨L, hR⟩ => h hd w0 L0 Q a w hQ ⟨_, hR.takeRow hs ht hy (of_not_beq hst) hi⟩
  | false => exact fun hd w0 L0 Q a w hQ ⟨L, hR⟩ => h hd w0 L0 Q a w hQ ⟨_, hR.takeRow hs ht hy (of_not_beq hst) hi⟩

/-- What slot s holds may be read as something more common. -/
theorem CW.leS {c : Code} {Q : Exit → St → Prop} (s : Nat) {x y : AV} (hs : get σ s = .av x) (hle : AV.le x y) (h : CW S N c Q (σ.upd false s (.av y))) : CW S N c Q σ := by
  unfold CW at *
  refine fun w0 L0 Q' a w hQ ⟨L, hR⟩ => h w0 L0 Q' a w hQ ⟨L, hR.defers, hR.size, hR.keep, hR.lok, fun n hn => ?_, fun n hn => ?_, hR.fix, hR.glob⟩
  · simp only [get]
    by_cases hsn : s = n
    · subst hsn
      rw [Nat.beq_refl, cond_true]
      have := hR.hold s hn
      rw [hs] at this
      exact Rep.le hle this
    · rw [not_beq hsn, cond_false]
      have hh := hR.hold n hn
      generalize get σ n = tv at hh
      cases tv with
      | rref s' q y => simp only [TV.stale]; cases Nat.beq s' s <;> first | exact hh | trivial
      | ptr s' q c y => simp only [TV.stale]; cases Nat.beq s' s <;> first | exact hh | (obtain ⟨k, h1, h2, _⟩ := hh; exact ⟨k, h1, h2, fun h => absurd rfl h⟩)
      | fpt s' q y => simp only [TV.stale]; cases Nat.beq s' s <;> first | exact hh | (obtain ⟨k, h1, h2, _⟩ := hh; exact ⟨k, h1, h2, fun h => absurd rfl h⟩)
      | rptr s' q j y => simp only [TV.stale]; cases Nat.beq s' s <;> first | exact hh | trivial
      | bdp s' x => simp only [TV.stale]; cases Nat.beq s' s <;> first | exact hh | trivial
      | bor s' x => simp only [TV.stale]; cases Nat.beq s' s <;> first | exact hh | trivial
      | _ => exact hh
  · simp only [get]
    have := own_lt hR hs (by simp)
    rw [not_beq (show s ≠ n by omega), cond_false, hR.out n hn]; rfl
/-- A table of nil rows, as rows of no length. -/
theorem le_nils {o : Bool} {n : Nat} : AV.le (.sl o 1 (List.replicate n .nil)) (.sl o 1 ((List.replicate n ([] : List Int)).map fun r => .sl true 1 (r.map .int))) := by
  refine .sl (by simp) (fun x hx => by rw [(List.mem_replicate.1 hx).2]; rfl) (fun y hy => ?_) (fun i x y hx hy => ?_)
  · obtain ⟨r, _, rfl⟩ := List.mem_map.1 hy; rfl
  · have h1 := (List.mem_replicate.1 (List.mem_of_getElem? hx)).2
    obtain ⟨r, hr, rfl⟩ := List.mem_map.1 (List.mem_of_getElem? hy)
    have h2 := (List.mem_replicate.1 hr).2
    subst h1; subst h2
    exact .nil
theorem sh_rowsO {m : List (List Int)} : (AV.sl true 1 (m.map fun r => .sl true 1 (r.map .int))).sh = .sl false 1 (m.map fun r => .sl false 1 (r.map .int)) := sh_rows
end
theorem or_nat (a b : Nat) (ha : a < 9223372036854775808) (hb : b < 9223372036854775808) : ((BitVec.ofInt 64 (a : Int)) ||| (BitVec.ofInt 64 (b : Int))).toNat = a ||| b := by
  rw [BitVec.toNat_or, toNat_ofInt64 a ha, toNat_ofInt64 b hb]
theorem s_orN {S : Sys} {σ : St} {d ty t t2 : Nat} {pos : String} {aft : Array Edge} {g : Option (Nat × Bool)} {x y : Operand} {a b : Nat} (hx : ov σ x = .av (.int (a : Int))) (hy : ov σ y = .av (.int (b : Int))) (hn : a < 9223372036854775808) (hm : b < 9223372036854775808) : Step S ⟨some d, .binOp .or t x y t2, ty, pos, aft, g⟩ σ (σ.put d (.av (.int ((a ||| b : Nat) : Int)))) :=
  s_bin2 hx hy rfl ⟨_, fun _ _ => .int, fun w => by
    have e := or_nat a b hn hm
    have hlt : a ||| b < 9223372036854775808 := Nat.or_lt_two_pow (n := 63) hn hm
    simp only [eqGuard, binOp, Op.intBits]
    rw [← wrap_lt hlt, ← e]; rfl⟩
theorem s_eqNN {S : Sys} {σ : St} {d ty : Nat} {pos : String} {aft : Array Edge} {g : Option (Nat × Bool)} {t t2 e sz by_ : Nat} {z : List AV} {x y : Operand} (hT : S.T t = some ⟨.slice e, sz, by_, z⟩) (hx : ov σ x = .av .nil) (hy : ov σ y = .av .nil) : Step S ⟨some d, .binOp .eql t x y t2, ty, pos, aft, g⟩ σ (σ.put d (.av (.bool true))) :=
  step_val rfl fun w0 L0 N c w L hR => ⟨.bool true, fun w' _ => by
    have hb := run_eqNil (S.ok t _ hT).slice none 0 0 w'
    simp only [execOp, ev_nil hR hx, ev_nil hR hy, eqGuard, Sem.run_bind]
    simp [hb], .bool⟩
theorem s_eqNilF {α : Type} {f : α → AV} {l : List α} {S : Sys} {σ : St} {d ty : Nat} {pos : String} {aft : Array Edge} {g : Option (Nat × Bool)} {t t2 e sz by_ c : Nat} {o : Bool} {z : List AV} {x y : Operand} (hx : rd σ (ov σ x) = .sl o c (l.map f)) (hy : ov σ y = .av .nil) (hT : S.T t = some ⟨.slice e, sz, by_, z⟩) (hl : l ≠ []) : Step S ⟨some d, .binOp .eql t x y t2, ty, pos, aft, g⟩ σ (σ.put d (.av (.bool false))) :=
  step_val rfl fun w0 L0 N a w L hR => by
    obtain ⟨L', π, _, _, hrep⟩ := rd_ok hR hx (by simp)
    obtain ⟨aa, cap, hv⟩ := sl_inv hrep
    have hne : aa.isNone = false := by
      cases l with
      | nil => exact absurd rfl hl
      | cons y0 r =>
        obtain ⟨b, off, cap', hv', _⟩ := elem_cells hrep (i := 0) (y := f y0) rfl
        rw [hv] at hv'
        injection hv' with h1
        rw [h1]; rfl
    refine ⟨.bool false, fun w' _ => ?_, .bool⟩
    have hb := run_eqNil (S.ok t _ hT).slice aa l.length cap w'
    simp only [execOp, hv, ev_nil hR hy, eqGuard, Sem.run_bind]
    simp [hb, hne]
section
variable {S : Sys} {N : Nat} {σ : St} {q : Bool} {ops : Array Oper} {l : List Oper} {K : St → Prop} {o : Oper}
/-- What isn't carried out leaves the word 'undef'. -/
theorem J.skipU {d : Nat} (hg : live ops o.guard σ = some false) (hd : o.dst = some d) (h : J q S N ops l K (σ.put d (.av (.val undef)))) : J q S N ops (o :: l) K σ := by
  unfold J at *
  have put : ∀ {w0 : World} {L0 : Nat → Lab} {a : Act} {w : World}, DOk S N d → Rel S w0 L0 N σ a w → Rel S w0 L0 N (σ.put d (.av (.val undef))) (a.put o.dst undef) w := fun hlt ⟨L, hR⟩ => ⟨_, by rw [hd]; exact hR.put hlt .val⟩
  cases q with
  | true =>
    intro hdo w0 L0 Q a w hQ hR
    obtain ⟨h1, h2⟩ := dstOk_cons hdo
    simp only [wpQuiet, live_wanted hg hR, Bool.false_eq_true, if_false]
    exact h h2 w0 L0 Q _ w hQ (put (h1 d hd) hR)
  | false =>
    intro hdo w0 L0 Q a w hQ hR
    obtain ⟨h1, h2⟩ := dstOk_cons hdo
    simp only [wpList, live_wanted hg hR, Bool.false_eq_true, if_false]
    exact h h2 w0 L0 Q _ w hQ (put (h1 d hd) hR)
def gsl (ops : Array Oper) : Option (Nat × Bool) → Option Nat
  | none => none
  | some (j, _) => (ops[j]?).bind (·.dst)
/-- .. nor is what waits for such a word. -/
theorem J.skipV {d t : Nat} (hg : gsl ops o.guard = some t) (ht : get σ t = .av (.val undef)) (hd : o.dst = some d) (h : J q S N ops l K (σ.put d (.av (.val undef)))) : J q S N ops (o :: l) K σ := by
  have hw : ∀ {w0 : World} {L0 : Nat → Lab} {a : Act} {w : World}, Rel S w0 L0 N σ a w → Region.wanted o (yielded ops a.tmps) = false := fun {w0 L0 a w} ⟨L, hR⟩ => by
    have hh := hR.hold t (own_lt hR ht (by simp))
    rw [ht] at hh
    unfold Region.wanted
    cases hgd : o.guard with
    | none => rw [hgd] at hg; cases hg
    | some jb =>
      obtain ⟨j, c⟩ := jb
      rw [hgd] at hg
      simp only [gsl] at hg
      have hv : a.tmps.getD t undef = undef := by generalize a.tmps.getD t undef = v at hh; cases hh; rfl
      simp only [yielded, hg, Option.bind_some]
      rw [Array.getD_eq_getD_getElem?] at hv
      cases ht' : a.tmps[t]? with
      | none => rfl
      | some v => rw [ht'] at hv; simp only [Option.getD_some] at hv; subst hv; rfl
  unfold J at *
  have put : ∀ {w0 : World} {L0 : Nat → Lab} {a : Act} {w : World}, DOk S N d → Rel S w0 L0 N σ a w → Rel S w0 L0 N (σ.put d (.av (.val undef))) (a.put o.dst undef) w := fun hlt ⟨L, hR⟩ => ⟨_, by rw [hd]; exact hR.put hlt .val⟩
  cases q with
  | true =>
    intro hdo w0 L0 Q a w hQ hR
    obtain ⟨h1, h2⟩ := dstOk_cons hdo
    simp only [wpQuiet, hw hR, Bool.false_eq_true, if_false]
    exact h h2 w0 L0 Q _ w hQ (put (h1 d hd) hR)
  | false =>
    intro hdo w0 L0 Q a w hQ hR
    obtain ⟨h1, h2⟩ := dstOk_cons hdo
    simp only [wpList, hw hR, Bool.false_eq_true, if_false]
    exact h h2 w0 L0 Q _ w hQ (put (h1 d hd) hR)
end
/-! ### rows and tables -/
abbrev rwS (r : List Int) : AV := .sl false 1 (r.map .int)
abbrev rwO (r : List Int) : AV := .sl true 1 (r.map .int)
theorem e_stRI {S : Sys} {σ : St} {l : List (List Int)} {ys : List Int} {t : Nat} {ti : TI} {x v : Operand} {s i j : Nat} {y0 : AV} {n : Int} {ty : Nat} {pos : String} {aft : Array Edge} {g : Option (Nat × Bool)} (hx : ov σ x = .rptr s i j y0) (hs : get σ s = .av (.sl true 1 (l.map rwO))) (hxi : l[i]? = some ys) (hT : S.T t = some ti) (hv : ov σ v = .av (.int n)) (hc2 : Nat.beq ti.size 1 = true) (hj : j < ys.length) :
    EStep S ⟨none, .store t x v, ty, pos, aft, g⟩ σ (σ.upd true s (.av (.sl true 1 ((l.set i (ys.set j n)).map rwO)))) := e_stRM (fun _ => rfl) hx hs hxi hT hv hc2 hj
theorem noSh_tup2 {a b : AV} (ha : NoSh a) (hb : NoSh b) : NoSh (.tup [a, b]) := .tup fun x hx => by
  rcases List.mem_cons.1 hx with rfl | hx
  · exact ha
  · rw [List.mem_singleton.1 hx]; exact hb
theorem noSh_tup3 {a b c : AV} (ha : NoSh a) (hb : NoSh b) (hc : NoSh c) : NoSh (.tup [a, b, c]) := .tup fun x hx => by
  rcases List.mem_cons.1 hx with rfl | hx
  · exact ha
  rcases List.mem_cons.1 hx with rfl | hx
  · exact hb
  · rw [List.mem_singleton.1 hx]; exact hc
def tb {α : Type} (n : Nat) (g : Nat → α) : List α := (List.range n).map g
def mtx (n m : Nat) (f : Nat → Nat → Int) : List (List Int) := tb n fun a => tb m (f a)
@[simp] theorem tb_length {α : Type} {n : Nat} {g : Nat → α} : (tb n g).length = n := by simp [tb]
@[simp] theorem mtx_length {n m : Nat} {f : Nat → Nat → Int} : (mtx n m f).length = n := tb_length
theorem tb_get {α : Type} {n x : Nat} {g : Nat → α} (h : x < n) : (tb n g)[x]? = some (g x) := by simp [tb, h]
theorem mtx_get {n m x : Nat} {f : Nat → Nat → Int} (h : x < n) : (mtx n m f)[x]? = some (tb m (f x)) := tb_get h
theorem tb_congr {α : Type} {n : Nat} {g h : Nat → α} (e : ∀ a, a < n → g a = h a) : tb n g = tb n h := List.map_congr_left fun a ha => e a (List.mem_range.1 ha)
theorem mtx_congr {n m : Nat} {f g : Nat → Nat → Int} (e : ∀ a b, a < n → b < m → f a b = g a b) : mtx n m f = mtx n m g := tb_congr fun a ha => tb_congr fun b hb => e a b ha hb
theorem tb_set {α : Type} {n x : Nat} {g : Nat → α} {v : α} : (tb n g).set x v = tb n fun a => if a = x then v else g a := by
  apply List.ext_getElem?
  intro j
  by_cases hj : j < n
  · rw [tb_get hj, List.getElem?_set, tb_length, tb_get hj]
    by_cases hx : x = j
    · subst hx; rw [if_pos rfl, if_pos hj, if_pos rfl]
    · rw [if_neg hx, if_neg (fun e => hx e.symm)]
  · rw [List.getElem?_eq_none (by simp; omega), List.getElem?_eq_none (by simp; omega)]
theorem mtx_set {n m x y : Nat} {f : Nat → Nat → Int} {v : Int} : (mtx n m f).set x ((tb m (f x)).set y v) = mtx n m fun a b => if a = x ∧ b = y then v else f a b := by
  unfold mtx
  rw [tb_set, tb_set]
  refine tb_congr fun a _ => ?_
  by_cases h : a = x
  · subst h; rw [if_pos rfl]; exact tb_congr fun b _ => by simp
  · rw [if_neg h]; exact tb_congr fun b _ => by simp [h]
theorem tb_replicate {α : Type} {n : Nat} {v : α} : List.replicate n v = tb n fun _ => v := by
  apply List.ext_getElem?
  intro j
  by_cases hj : j < n
  · rw [tb_get hj]; simp [hj]
  · rw [List.getElem?_eq_none (by simp; omega), List.getElem?_eq_none (by simp; omega)]
theorem tb_succ {α : Type} {n : Nat} {g : Nat → α} : tb (n + 1) g = tb n g ++ [g n] := by simp [tb, List.range_succ]
theorem mtx_of {M : List (List Int)} {m : Nat} (h : ∀ r ∈ M, r.length = m) : M = mtx M.length m fun a b => (M.getD a []).getD b 0 := by
  apply List.ext_getElem?
  intro j
  by_cases hj : j < M.length
  · rw [mtx_get hj, List.getElem?_eq_getElem hj]
    congr 1
    have hr := h _ (List.getElem_mem hj)
    apply List.ext_getElem?
    intro k
    by_cases hk : k < m
    · rw [tb_get hk, List.getElem?_eq_getElem (by omega)]
      simp [List.getD_eq_getElem?_getD, hj, show k < (M[j]).length by omega]
    · rw [List.getElem?_eq_none (by omega), List.getElem?_eq_none (by simp; omega)]
  · rw [List.getElem?_eq_none (by omega), List.getElem?_eq_none (by simp; omega)]
/-- A test of ints, as a function value. -/
def fnI (P : Program) (D : Int → Prop) (p : Int → Bool) : AV := .fn (BehA P (fun xs9 => ∃ x, xs9 = [.int x] ∧ D x) (fun xs9 => match xs9 with | [.int n] => .bool (p n) | _ => .bool false))
theorem ArgOk.funI {S : Sys} {N : Nat} {σ : St} {f : Nat} {D : Int → Prop} {p : Int → Bool} (hf : FnOk S.P f) (hs : ∀ x, D x → FnSpec S.P f [.int x] [.int x] (.bool (p x))) : ArgOk S N σ (.func f) true (fnI S.P D p) :=
  .func rfl hf (fun xs9 hd => by obtain ⟨x, rfl, hx⟩ := hd; exact hs x hx) (fun xs9 hd => by obtain ⟨x, rfl, hx⟩ := hd; rfl)
theorem ArgOk.cloI {S : Sys} {N : Nat} {σ : St} {f t : Nat} {caps : List Nat} {zs : List AV} {D : Int → Prop} {p : Int → Bool} (ht : get σ t = .clo f caps) (hc : CapsOk σ caps zs) (hf : FnOk S.P f) (hs : ∀ x, D x → FnSpec S.P f (.int x :: zs) (.int x :: zs) (.bool (p x))) : ArgOk S N σ (.tmp t) true (fnI S.P D p) :=
  .clo rfl ht hc hf (fun xs9 hd => by obtain ⟨x, rfl, hx⟩ := hd; exact hs x hx) (fun xs9 hd => by obtain ⟨x, rfl, hx⟩ := hd; rfl)
end FM
