/- One field of an element of a slice that a slot owns is stored. -/
import Derived.Test.YtkkcnppgcnmikaaGreatDoorHfnm
namespace FM
open Go Go.RowKit
set_option linter.unusedVariables false
theorem e_stFS {S : Sys} {σ : St} {t : Nat} {ti : TI} {x v : Operand} {s e off c : Nat} {y0 z : AV} {xs cs : List AV} {ty : Nat} {pos : String} {aft : Array Edge} {g : Option (Nat × Bool)} (hx : ov σ x = .fpt s (e * c + off) y0) (hs : FM.get σ s = .av (.sl true c xs)) (hxe : xs[e]? = some (.agg cs)) (hoff : off < cs.length) (hT : S.T t = some ti) (hv : ov σ v = .av z) (hz : z.isOwn = false) (hok : z.varOk = true) (h1 : z.cells = [z]) (hc2 : Nat.beq ti.size 1 = true) :
    EStep S ⟨none, .store t x v, ty, pos, aft, g⟩ σ (σ.upd false s (.av (.sl true c (xs.set e (.agg (cs.set off z)))))) := by
  intro w0 L0 N a w _ ⟨L, hR⟩
  have hc3 := Nat.eq_of_beq_eq_true hc2
  obtain ⟨_, ⟨b, hL, hp, _⟩, _⟩ := hold_plain hR hx (by simp)
  have hsN := own_lt hR hs (by simp)
  have hh := hR.hold s hsN
  rw [hs] at hh
  simp only [Hold] at hh
  obtain ⟨v1, v2, v3⟩ := val_cells hR hv hz hok
  rw [h1] at v1
  have v1 : (a.eval v).cells.size = 1 := v1
  obtain ⟨u0, hu0, hru0⟩ := v3 0 z (by rw [h1]; rfl)
  have hlt : e < xs.length := (List.getElem?_eq_some_iff.1 hxe).1
  generalize hsv : a.tmps.getD s undef = sv at hh
  cases hh with
  | slE h => simp at hxe
  | @slO p _ _ b' cap arr ee u hL' hb hcap hsz hcx hcell hr =>
    have := hR.lok.inj _ _ _ hL hL'
    subst this
    have hcl : cs.length = c := hcx _ (List.mem_of_getElem? hxe)
    have hmul : (e + 1) * c ≤ cap * c := Nat.mul_le_mul_right _ (by omega)
    rw [Nat.add_mul, Nat.one_mul] at hmul
    obtain ⟨A, hrun, hAsz, harr⟩ : ∃ A : Array Value, (Instr.storeAt t (.pointer (some ⟨b, e * c + off, none⟩)) (a.eval v)).run S.P w = .ok () (w.setRow b A) ∧ A.size = arr.size ∧ ∀ j, A[j]? = if e * c + off ≤ j ∧ j < e * c + off + (a.eval v).cells.size then (a.eval v).cells[j - (e * c + off)]? else arr[j]? :=
      ⟨_, run_store_at (S := S) hT (off := e * c + off) (v := a.eval v) hb (by omega) v2 (by omega), by simp; omega, fun j => by
        have := getElem?_splice arr.toList (a.eval v).cells.toList (e * c + off) j (by simp; omega)
        simpa using this⟩
    have hother : ∀ k, k ≠ b → (w.setRow b A).heap[k]? = w.heap[k]? := fun k hk => setRow_other w b k A hk
    have hnew := setRow_heap w b arr A ee (0, 0) hb
    have hsz' : (w.setRow b A).heap.size = w.heap.size := by simp
    refine ⟨undef, w.setRow b A, .inr ⟨by simp only [execOp, hp, Sem.run_bind, hrun]; rfl, rfl⟩, L, hR.write (b := b) (q0 := []) hsN hL hsz' rfl rfl rfl hother ?_ false (fun h => by cases h)⟩
    have ho : (w.setRow b A).os = w.os := rfl
    have ht : (w.setRow b A).tape = w.tape := rfl
    have hu : (w.setRow b A).output = w.output := rfl
    rw [hsv]
    generalize w.setRow b A = W at hrun hother hnew hsz' ho ht hu
    have hlen : (xs.set e (.agg (cs.set off z))).length = xs.length := by simp
    have hslots : ∀ π (y : AV) (u : Value), Rep L w π y u → (∀ p', π = some p' → ∃ o q, p' = [s] ++ o :: q) → Rep L W π y u := fun π y u h hπ =>
      h.frame (by omega) ho ht hu (fun k hk _ => ⟨hk, hother k (fun e => by subst e; rw [hL] at hk; cases hk)⟩) π fun p' hp' => ⟨p', hp', fun k q hk => ⟨hk, hother k (fun e => by
        subst e
        obtain ⟨o, q', rfl⟩ := hπ p' hp'
        rw [hL] at hk; injection hk with hk
        have := congrArg List.length hk
        simp at this)⟩⟩
    rw [← hlen]
    refine .slO (fun o => (A[o]?).getD undef) hL hnew (by rw [hlen]; exact hcap) (by rw [hAsz]; exact hsz) (fun y hy => ?_) (fun o ho => ?_) (fun o y hy => ?_)
    · rcases List.mem_or_eq_of_mem_set hy with h | h
      · exact hcx y h
      · rw [h]; show (cs.set off z).length = c; rw [List.length_set]; exact hcl
    · have hlt : o < A.size := by
        rw [hAsz, hsz]
        rw [hlen] at ho
        exact Nat.lt_of_lt_of_le ho (Nat.mul_le_mul_right _ hcap)
      simp [hlt]
    · rw [harr, v1]
      have old : ∀ y, (flat xs)[o]? = some y → ¬ (e * c + off ≤ o ∧ o < e * c + off + 1) → Rep L W (some ([s] ++ [o])) y (((if e * c + off ≤ o ∧ o < e * c + off + 1 then (a.eval v).cells[o - (e * c + off)]? else arr[o]?)).getD undef) := fun y h2 hno => by
        have ho : o < xs.length * c := by rw [← flat_length hcx]; exact (List.getElem?_eq_some_iff.1 h2).1
        rw [if_neg hno, hcell o ho]
        exact hslots _ y _ (hr o y h2) (fun p hp => by cases hp; exact ⟨o, [], rfl⟩)
      rcases flat_set hcx (show (AV.agg (cs.set off z)).cells.length = c by show (cs.set off z).length = c; rw [List.length_set]; exact hcl) o y hy with ⟨g1, g2, g3, g4⟩ | ⟨g1, g2⟩
      · have g4 : (cs.set off z)[o - e * c]? = some y := g4
        rw [List.getElem?_set] at g4
        by_cases e1 : off = o - e * c
        · rw [if_pos e1, if_pos hoff] at g4
          cases g4
          rw [if_pos (by omega), show o - (e * c + off) = 0 by omega, hu0]
          exact (hslots none z u0 hru0 (fun p hp => by cases hp)).any _
        · rw [if_neg e1] at g4
          have := flat_get (j := o - e * c) hcx hxe (show (AV.agg cs).cells[o - e * c]? = some y from g4)
          rw [show e * c + (o - e * c) = o by omega] at this
          exact old y this (by omega)
      · exact old y g2 (by omega)
end FM
namespace Go.Proofs.YtkkcnppgcnmikaaGreatDoor
open Go FM Go.Proofs
set_option linter.all false
theorem e_stMo {S : FM.Sys} {σ : FM.St} {t : Nat} {ti : TI} {x v : Operand} {s e : Nat} {y0 : AV} {l : List Ac} {a : Ac} {n : Int} {ty : Nat} {pos : String} {aft : Array Edge} {g : Option (Nat × Bool)} (hx : ov σ x = .fpt s (e * 3 + 1) y0) (hs : FM.get σ s = .av (.sl true 3 (l.map acA))) (ha : l[e]? = some a) (hT : S.T t = some ti) (hv : ov σ v = .av (.int n)) (hc2 : Nat.beq ti.size 1 = true) :
    EStep S ⟨none, .store t x v, ty, pos, aft, g⟩ σ (σ.upd false s (.av (.sl true 3 ((l.set e (a.1, n, a.2.2.1, ())).map acA)))) := by
  have := e_stFS (S := S) (ty := ty) (pos := pos) (aft := aft) (g := g) (t := t) (v := v) (z := .int n) hx hs (cs := [.str a.1, .int a.2.1, .int a.2.2.1]) (by rw [List.getElem?_map, ha]; rfl) (by simp) hT hv rfl rfl rfl hc2
  rw [List.map_set]
  exact this
theorem e_stNu {S : FM.Sys} {σ : FM.St} {t : Nat} {ti : TI} {x v : Operand} {s e : Nat} {y0 : AV} {l : List Ac} {a : Ac} {n : Int} {ty : Nat} {pos : String} {aft : Array Edge} {g : Option (Nat × Bool)} (hx : ov σ x = .fpt s (e * 3 + 2) y0) (hs : FM.get σ s = .av (.sl true 3 (l.map acA))) (ha : l[e]? = some a) (hT : S.T t = some ti) (hv : ov σ v = .av (.int n)) (hc2 : Nat.beq ti.size 1 = true) :
    EStep S ⟨none, .store t x v, ty, pos, aft, g⟩ σ (σ.upd false s (.av (.sl true 3 ((l.set e (a.1, a.2.1, n, ())).map acA)))) := by
  have := e_stFS (S := S) (ty := ty) (pos := pos) (aft := aft) (g := g) (t := t) (v := v) (z := .int n) hx hs (cs := [.str a.1, .int a.2.1, .int a.2.2.1]) (by rw [List.getElem?_map, ha]; rfl) (by simp) hT hv rfl rfl rfl hc2
  rw [List.map_set]
  exact this
end Go.Proofs.YtkkcnppgcnmikaaGreatDoor
