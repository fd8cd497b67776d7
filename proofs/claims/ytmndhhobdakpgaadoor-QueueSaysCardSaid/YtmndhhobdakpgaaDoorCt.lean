/- What a slot owns, cut short and handed on: s = s[:n]. No program in sight. -/
import Derived.Test.YtmndhhobdakpgaaDoorFm
import Derived.Test.YtmndhhobdakpgaaDoorFs
namespace FM
open Go Go.RowKit
set_option linter.all false
variable {S : Sys} {σ : St} {d ty : Nat} {pos : String} {aft : Array Edge} {g : Option (Nat × Bool)}
theorem own_cut {L : Nat → Lab} {w : World} {p : List Nat} {c : Nat} {xs : List AV} {v : Value} (h : Rep L w (some p) (.sl true c xs) v) :
    ∃ a cap, v = .slice a xs.length cap ∧ xs.length ≤ cap ∧ ∀ n, n ≤ xs.length → Rep L w (some p) (.sl true c (xs.take n)) (.slice a n cap) := by
  cases h with
  | @slE _ _ _ a cap h =>
    refine ⟨a, cap, rfl, Nat.zero_le _, fun n hn => ?_⟩
    have : n = 0 := by simpa using hn
    subst this
    rw [List.take_nil]
    exact .slE h
  | @slO p c xs b cap arr e u hL hb hcap hsz hc hcell hr =>
    refine ⟨some ⟨b, 0, none⟩, cap, rfl, hcap, fun n hn => ?_⟩
    have hlen : (xs.take n).length = n := by rw [List.length_take]; omega
    have key : Rep L w (some p) (.sl true c (xs.take n)) (.slice (some ⟨b, 0, none⟩) (xs.take n).length cap) := by
      refine .slO u hL hb (by rw [hlen]; omega) hsz (fun x hx => hc x (List.mem_of_mem_take hx)) (fun o ho => hcell o (Nat.lt_of_lt_of_le ho (Nat.mul_le_mul_right _ (by rw [hlen]; exact hn)))) fun o y hy => hr o y ?_
      rw [← List.take_append_drop n xs, flat_append, List.getElem?_append_left (List.getElem?_eq_some_iff.1 hy).1]
      exact hy
    rwa [hlen] at key
/-- Slot d takes over what slot s owned, as another word of it. -/
theorem RelL.takeAs {w0 : World} {L0 : Nat → Lab} {N : Nat} {a : Act} {w : World} {L : Nat → Lab} (h : RelL S w0 L0 N σ a w L) {s : Nat} {x y : AV} {v : Value} (hs : get σ s = .av x) (hd : DOk S N d) (hsd : s ≠ d) (hv : Rep L w (some [s]) y v) :
    RelL S w0 L0 N ((σ.put s .none).put d (.av y)) (a.put (some d) v) w (mvl [s] d L) := by
  have hsN := own_lt h hs (by simp)
  refine ⟨h.defers, by simp [Act.put, h.size], h.keep, h.lok.mvl _ _, fun n hn => ?_, fun n hn => ?_, fun i hi => (getD_set_other (hd.ne hi)).trans (h.fix i hi)⟩
  · simp only [get, kill_eq, Act.put]
    by_cases hnd : d = n
    · subst hnd
      rw [Nat.beq_refl, cond_true, getD_set_same (by rw [h.size]; exact hd.lt)]
      refine Rep.frame (Nat.le_refl _) rfl rfl rfl (fun b h1 _ => ⟨mvl_sh h1, rfl⟩) hv _ fun p hp => ?_
      cases hp
      exact ⟨[d], rfl, fun b q hb => ⟨mvl_to hb, rfl⟩⟩
    · rw [not_beq hnd, cond_false, getD_set_other hnd]
      by_cases hns : s = n
      · subst hns; rw [Nat.beq_refl, cond_true]; trivial
      · rw [not_beq hns, cond_false]
        cases hdep : (get σ n).dep s with
        | true => trivial
        | false =>
          rw [cond_false]
          cases hdep' : (get σ n).dep d with
          | true => trivial
          | false =>
            rw [cond_false]
            refine Hold.relab (good := fun t => t ≠ d ∧ t ≠ s) (Nat.le_refl _) rfl rfl rfl (fun b h1 _ => ⟨mvl_sh h1, rfl⟩) (fun b t q h1 h2 => ⟨mvl_keep h1 h2.1 ?_, rfl⟩)
              (fun s' hs' => getD_set_other (fun e => hs'.1 e.symm)) ⟨fun e => hnd e.symm, fun e => hns e.symm⟩ (fun s' hs' => ⟨fun e => ?_, fun e => ?_⟩) (h.hold n hn)
            · simp only [strip, not_beq (fun e => h2.2 e.symm : s ≠ t), cond_false]
            · subst e; rw [hdep'] at hs'; cases hs'
            · subst e; rw [hdep] at hs'; cases hs'
  · simp only [get, kill_eq]
    rw [not_beq (by have := hd.lt; omega), cond_false, not_beq (by omega), cond_false]
    have := h.out n hn
    rw [this]; rfl
/-- s[:n] of what slot s owns, taken over: s is not looked at again. -/
theorem s_cutO {t e c sz by_ : Nat} {z : List AV} {ti : TI} {x b : Operand} {s : Nat} {α : Type} {f : α → AV} {l : List α} {n : Int} (hx : ov σ x = .ref s) (hs : get σ s = .av (.sl true c (l.map f))) (hT : S.T t = some ⟨.slice e, sz, by_, z⟩) (hE : S.T e = some ti)
    (hb : ov σ b = .av (.int n)) (h0 : 0 ≤ n) (h1 : n.toNat ≤ l.length) (hsd : Nat.beq s d = false) :
    Step S ⟨some d, .slice t x none (some b) none, ty, pos, aft, g⟩ σ ((σ.put s .none).put d (.av (.sl true c ((l.take n.toNat).map f)))) := by
  intro w0 L0 N a w hN ⟨L, hR⟩
  obtain ⟨m, hm, _⟩ := hold_plain hR hx (by simp)
  simp only [Hold] at hm
  have hh := hR.hold s (own_lt hR hs (by simp))
  rw [hs, ← hm] at hh
  simp only [Hold] at hh
  obtain ⟨ad, cap, hv, hcap, hcut⟩ := own_cut hh
  rw [List.length_map] at hv hcap hcut
  obtain ⟨f', hf, _⟩ := (S.ok e _ hE).size
  obtain ⟨k, rfl⟩ : ∃ k : Nat, n = k := ⟨n.toNat, by omega⟩
  rw [Int.toNat_natCast] at h1 ⊢
  obtain ⟨mb, hmb⟩ := ev_av hR hb
  have hbv : a.eval b = .int .i64 (k : Int) := by
    generalize a.eval b = bv at hmb
    cases hmb; rfl
  have run : ∀ w', (Instr.sliceAt t (.slice ad l.length cap) none (some (.int .i64 (k : Nat))) none).run S.P w' = .ok (.slice ad k cap) w' := by
    intro w'
    have e1 : (Instr.sliceBound (.int .i64 (k : Nat)) cap .sliceAcap).run S.P w' = .ok k w' := by
      have : (0 : Int) ≤ (k : Int) ∧ (k : Int) ≤ (cap : Int) := by omega
      have h2 : k ≤ cap := by omega
      simp [Instr.sliceBound, asIntOf, this, h2]
    have hb : (Instr.sliceBounds true l.length cap none (some (.int .i64 (k : Nat))) none).run S.P w' = .ok (0, k, cap) w' := by
      simp [Instr.sliceBounds, e1]
    have had : (if cap = 0 then ad else ad.map (·.add (0 * f'.size))) = ad := by
      split
      · rfl
      · cases ad with
        | none => rfl
        | some q => cases q; simp [Addr.add]
    simp [Instr.sliceAt, Instr.slice, run_underlying (S.ok t _ hT).slice, hb, Go.sizeOf, typeInfo, hf]
    first | done | simpa using had
  refine ⟨.slice ad k cap, fun w' _ => ?_, mvl [s] d L, ?_⟩
  · simp only [execOp, Option.map_none, Option.map_some, hv, hbv, Sem.run_bind, run w', Result.andThen_ok, Sem.run_pure]
  · rw [List.map_take]
    exact hR.takeAs hs (hN d rfl) (of_not_beq hsd) (hcut k h1)
/-! ### parts of what a slot owns, read: in whatever order -/
theorem w_slcR {t e c sz by_ : Nat} {z : List AV} {ti : TI} {x : Operand} {lo hi : Option Operand} {s : Nat} {y : AV} {xs : List AV} {l u : Nat} (hx : ov σ x = .ref s) (hs : get σ s = .av y) (hy : y.sh = .sl false c xs) (hT : S.T t = some ⟨.slice e, sz, by_, z⟩) (hE : S.T e = some ti) (hc : ti.size = c)
    (hl : bound σ 0 lo = some l) (hu : bound σ xs.length hi = some u) (h1 : l ≤ u) (h2 : u ≤ xs.length) (hsd : Nat.beq s d = false) : StepW S ⟨some d, .slice t x lo hi none, ty, pos, aft, g⟩ σ (σ.put d (.bor s (.sl false c ((xs.take u).drop l)))) := by
  intro w0 L0 N a w hN ⟨L, hR⟩
  obtain ⟨m, hm, _⟩ := hold_plain hR hx (by simp)
  simp only [Hold] at hm
  have hh := hR.hold s (own_lt hR hs (by simp))
  rw [hs, ← hm] at hh
  simp only [Hold] at hh
  have hsh := Rep.toSh (L' := fun b => (L b).without s) (fun b _ hb => without_sh hb) hh (fun p hp b q hb => by cases hp; rw [hb]; simp [Lab.without, Nat.beq_refl])
  rw [hy] at hsh
  obtain ⟨v', hv, hr⟩ := slice_core (S.ok t _ hT).slice (by subst hc; exact (S.ok e _ hE).size) hsh (bound_ev hR hl) (bound_ev hR hu) h1 h2
  exact ⟨v', fun w' => by simp only [execOp, Option.map_none, Sem.run_bind, hv w', Result.andThen_ok, Sem.run_pure], Rel.putPlain (n := d) hR (hN d rfl) rfl hsd hr⟩
section
variable {α : Type} {f : α → AV} {l : List α} {t e c sz by_ : Nat} {z : List AV} {ti : TI} {x b : Operand} {n : Int}
theorem w_slcRlo {s : Nat} {y : AV} (hx : ov σ x = .ref s) (hs : get σ s = .av y) (hy : y.sh = .sl false c (l.map f)) (hT : S.T t = some ⟨.slice e, sz, by_, z⟩) (hE : S.T e = some ti) (hc : ti.size = c) (hb : ov σ b = .av (.int n)) (h0 : 0 ≤ n) (h1 : n.toNat ≤ l.length) (hsd : Nat.beq s d = false) :
    StepW S ⟨some d, .slice t x (some b) none none, ty, pos, aft, g⟩ σ (σ.put d (.bor s (.sl false c ((l.drop n.toNat).map f)))) := by
  have := w_slcR (d := d) (ty := ty) (pos := pos) (aft := aft) (g := g) hx hs hy hT hE hc (ovb hb h0) (show bound σ _ none = some _ from rfl) (by rw [List.length_map]; exact h1) (Nat.le_refl _) hsd
  rwa [List.take_length, ← List.map_drop] at this
theorem w_slcRhi {s : Nat} {y : AV} (hx : ov σ x = .ref s) (hs : get σ s = .av y) (hy : y.sh = .sl false c (l.map f)) (hT : S.T t = some ⟨.slice e, sz, by_, z⟩) (hE : S.T e = some ti) (hc : ti.size = c) (hb : ov σ b = .av (.int n)) (h0 : 0 ≤ n) (h1 : n.toNat ≤ l.length) (hsd : Nat.beq s d = false) :
    StepW S ⟨some d, .slice t x none (some b) none, ty, pos, aft, g⟩ σ (σ.put d (.bor s (.sl false c ((l.take n.toNat).map f)))) := by
  have := w_slcR (d := d) (ty := ty) (pos := pos) (aft := aft) (g := g) hx hs hy hT hE hc (show bound σ 0 none = some _ from rfl) (ovb hb h0) (Nat.zero_le _) (by rw [List.length_map]; exact h1) hsd
  rwa [List.drop_zero, ← List.map_take] at this
end
end FM
