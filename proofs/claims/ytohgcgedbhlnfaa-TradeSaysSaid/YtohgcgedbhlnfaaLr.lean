/- A slot read in another way; pairs of integers as plain values. No program in sight. -/
import Derived.Test.YtohgcgedbhlnfaaLj
namespace FM
open Go Go.RowKit
set_option linter.all false
section
variable {S : Sys} {N : Nat} {σ : St}
theorem RelL.re {w0 : World} {L0 : Nat → Lab} {a : Act} {w : World} {L : Nat → Lab} (s : Nat) {x y : AV} (hs : get σ s = .av x) (hle : ∀ {L : Nat → Lab} {w : World} {π : Option (List Nat)} {v : Value}, Rep L w π x v → Rep L w π y v) (hR : RelL S w0 L0 N σ a w L) : RelL S w0 L0 N (σ.upd false s (.av y)) a w L := by
  refine ⟨hR.defers, hR.size, hR.keep, hR.lok, fun n hn => ?_, fun n hn => ?_, hR.fix⟩
  · simp only [get]
    by_cases hsn : s = n
    · subst hsn
      rw [Nat.beq_refl, cond_true]
      have := hR.hold s hn
      rw [hs] at this
      exact hle this
    · rw [not_beq hsn, cond_false]
      have hh := hR.hold n hn
      generalize get σ n = tv at hh
      cases tv with
      | rref s' q y => simp only [TV.stale]; cases Nat.beq s' s <;> first | exact hh | trivial
      | ptr s' q c y => simp only [TV.stale]; cases Nat.beq s' s <;> first | exact hh | (obtain ⟨k, h1, h2, _⟩ := hh; exact ⟨k, h1, h2, fun h => absurd rfl h⟩)
      | fpt s' q y => simp only [TV.stale]; cases Nat.beq s' s <;> first | exact hh | (obtain ⟨k, h1, h2, _⟩ := hh; exact ⟨k, h1, h2, fun h => absurd rfl h⟩)
      | rptr s' q j y => simp only [TV.stale]; cases Nat.beq s' s <;> first | exact hh | trivial
      | bdp s' x => simp only [TV.stale]; cases Nat.beq s' s <;> first | exact hh | trivial
      | bor s' x => simp only [TV.stale]; cases Nat.beq s' s <;> first | exact hh | trivial
      | _ => exact hh
  · simp only [get]
    have := own_lt hR hs (by simp)
    rw [not_beq (show s ≠ n by omega), cond_false, hR.out n hn]; rfl
theorem J.re {q : Bool} {ops : Array Oper} {l : List Oper} {K : St → Prop} (s : Nat) {x y : AV} (hs : get σ s = .av x) (hle : ∀ {L : Nat → Lab} {w : World} {π : Option (List Nat)} {v : Value}, Rep L w π x v → Rep L w π y v) (h : J q S N ops l K (σ.upd false s (.av y))) : J q S N ops l K σ := by
  unfold J at *
  cases q with
  | true => exact fun hd w0 L0 Q a w hQ ⟨L, hR⟩ => h hd w0 L0 Q a w hQ ⟨L, hR.re s hs hle⟩
  | false => exact fun hd w0 L0 Q a w hQ ⟨L, hR⟩ => h hd w0 L0 Q a w hQ ⟨L, hR.re s hs hle⟩
theorem CW.re {c : Code} {Q : Exit → St → Prop} (s : Nat) {x y : AV} (hs : get σ s = .av x) (hle : ∀ {L : Nat → Lab} {w : World} {π : Option (List Nat)} {v : Value}, Rep L w π x v → Rep L w π y v) (h : CW S N c Q (σ.upd false s (.av y))) : CW S N c Q σ := by
  unfold CW at *
  exact fun w0 L0 Q' a w hQ ⟨L, hR⟩ => h w0 L0 Q' a w hQ ⟨L, hR.re s hs hle⟩
def pairV (a b : Int) : Value := .agg #[.int .i64 a, .int .i64 b]
theorem rep_pairV {L : Nat → Lab} {w : World} {π : Option (List Nat)} {a b : Int} {v : Value} (h : Rep L w π (.val (pairV a b)) v) : Rep L w π (.agg [.int a, .int b]) v := by
  cases h
  refine .agg (vs := [.int .i64 a, .int .i64 b]) rfl fun i x v hx hv => ?_
  match i with
  | 0 => simp only [List.getElem?_cons_zero, Option.some.injEq] at hx hv; subst hx; subst hv; exact .int
  | 1 => simp only [List.getElem?_cons_succ, List.getElem?_cons_zero, Option.some.injEq] at hx hv; subst hx; subst hv; exact .int
  | i + 2 => simp at hx
theorem pairV_rep {L : Nat → Lab} {w : World} {π : Option (List Nat)} {a b : Int} {v : Value} (h : Rep L w π (.agg [.int a, .int b]) v) : Rep L w π (.val (pairV a b)) v := by
  cases h with
  | @agg _ _ vs hl h =>
    match vs, hl with
    | [x, y], _ =>
      have h0 := h 0 _ x rfl rfl
      have h1 := h 1 _ y rfl rfl
      cases h0; cases h1
      exact .val
theorem J.unval {q : Bool} {ops : Array Oper} {l : List Oper} {K : St → Prop} (s : Nat) {a b : Int} (hs : get σ s = .av (.val (pairV a b))) (h : J q S N ops l K (σ.upd false s (.av (.agg [.int a, .int b])))) : J q S N ops l K σ := J.re s hs rep_pairV h
theorem FnSpec.res {P : Program} {f : Nat} {bs bs' : List AV} {r r' : AV} (h : FnSpec P f bs bs' r) (hle : ∀ {L : Nat → Lab} {w : World} {π : Option (List Nat)} {v : Value}, Rep L w π r v → Rep L w π r' v) : FnSpec P f bs bs' r' :=
  ⟨h.ok, fun w L vs h1 h2 h3 => (h.calls w L vs h1 h2 h3).mono fun e w' ⟨v, L', he, hB⟩ => ⟨v, L', he, hB.keep, hB.lok, hB.head, hB.args, hle hB.res⟩⟩
theorem sh_rw {o : Bool} {r : List Int} : (AV.sl o 1 (r.map .int)).sh = rwS r := sh_int
theorem sh_boxR {o : Bool} {c : Nat} {l : List (List Int)} : (AV.pt true [.sl o c (l.map rwS)]).sh = .pt false [.sl false c (l.map rwS)] := by
  simp only [AV.sh, AV.shL]
  rw [shL_map rwS l rwS (fun _ => sh_int)]
end
/-! ### addresses in what is shared may be taken first -/
section
variable {S : Sys} {σ : St} {d : Nat} {ty : Nat} {pos : String} {aft : Array Edge} {g : Option (Nat × Bool)}
theorem w_ixaS {t e c sz by_ : Nat} {z : List AV} {ti : TI} {x i : Operand} {xs : List AV} {n : Int} {y : AV} (hx : ov σ x = .av (.sl false c xs)) (hi : ov σ i = .av (.int n)) (hT : S.T t = some ⟨.slice e, sz, by_, z⟩) (hE : S.T e = some ti) (hc : ti.size = c)
    (h0 : 0 ≤ n) (hy : xs[n.toNat]? = some y) : StepW S ⟨some d, .indexAddr t x i, ty, pos, aft, g⟩ σ (σ.put d (.dptr y)) := by
  intro w0 L0 N a w hN ⟨L, hR⟩
  obtain ⟨m, hm⟩ := ev_av hR hx
  obtain ⟨b, off, cap, hv, hb, hlt, ⟨_, hL, hcs⟩ | ⟨h, _⟩⟩ := elem_cells hm hy
  · refine ⟨.pointer (some ⟨b, off + n.toNat * c, none⟩), fun w' => ?_, Rel.putPlain (n := d) hR (hN d rfl) rfl rfl ⟨b, off + n.toNat * c, rfl, hL, hb, hcs⟩⟩
    subst hc
    simp only [execOp, hv, ev_int hR hi, Sem.run_bind, run_indexAt (S.ok t _ hT).slice (S.ok e _ hE).size h0 hlt]
    rfl
  · cases h
theorem w_fadD {t sz by_ i off fty : Nat} {fs : List (Nat × Nat)} {zz cs : List AV} {tif : TI} {y : AV} {x : Operand} (hx : ov σ x = .dptr (.agg cs)) (hT : S.T t = some ⟨.struct fs, sz, by_, zz⟩) (hf : fs[i]? = some (off, fty)) (hF : S.T fty = some tif) (hc : Nat.beq tif.size 0 = false) (hy : cs[off]? = some y) (h1 : y.cells = [y]) :
    StepW S ⟨some d, .fieldAddr t x i, ty, pos, aft, g⟩ σ (σ.put d (.dptr y)) := by
  intro w0 L0 N a w hN ⟨L, hR⟩
  obtain ⟨_, ⟨b, o, hv, hb, hlt, hcs⟩, _⟩ := hold_plain hR hx (by simp)
  obtain ⟨fields, f, hu, hfi, h2, h3⟩ := (S.ok t _ hT).fld hf
  have hsz := (S.ok fty _ hF).size
  rw [← h3] at hsz
  refine ⟨.pointer (some ⟨b, o + f.offset, none⟩), fun w' => ?_, Rel.putPlain (n := d) hR (hN d rfl) rfl rfl ⟨b, o + f.offset, rfl, hb, hlt, fun j z hz => ?_⟩⟩
  · simp only [execOp, hv, Sem.run_bind, run_fieldAt hu hfi hsz (of_not_beq hc)]; rfl
  · rw [h1] at hz
    cases j with
    | zero => simp only [List.getElem?_cons_zero, Option.some.injEq] at hz; subst hz; rw [h2]; exact hcs off _ hy
    | succ j => simp at hz
end
section
variable {S : Sys} {N : Nat} {σ : St} {K : St → Prop} {l : List Oper} {listed : List Bool} {fuel : Nat}
theorem JA.more3 {i j k : Nat} {o1 o2 o3 : Oper} (hr : readyL l listed = [i, j, k]) (h1 : l[i]? = some o1) (h2 : l[j]? = some o2) (h3 : l[k]? = some o3) (g1 : J false S N l.toArray [o1] (JA S N l.toArray fuel (listed.set i true) K) σ) (g2 : J false S N l.toArray [o2] (JA S N l.toArray fuel (listed.set j true) K) σ) (g3 : J false S N l.toArray [o3] (JA S N l.toArray fuel (listed.set k true) K) σ) : JA S N l.toArray (fuel + 1) listed K σ :=
  .all [i, j, k] hr rfl fun x hx => by
    simp only [List.mem_cons, List.not_mem_nil, or_false] at hx
    rcases hx with rfl | rfl | rfl
    · exact ⟨_, h1, g1⟩
    · exact ⟨_, h2, g2⟩
    · exact ⟨_, h3, g3⟩
theorem JA.more4 {i j k m : Nat} {o1 o2 o3 o4 : Oper} (hr : readyL l listed = [i, j, k, m]) (h1 : l[i]? = some o1) (h2 : l[j]? = some o2) (h3 : l[k]? = some o3) (h4 : l[m]? = some o4) (g1 : J false S N l.toArray [o1] (JA S N l.toArray fuel (listed.set i true) K) σ) (g2 : J false S N l.toArray [o2] (JA S N l.toArray fuel (listed.set j true) K) σ) (g3 : J false S N l.toArray [o3] (JA S N l.toArray fuel (listed.set k true) K) σ) (g4 : J false S N l.toArray [o4] (JA S N l.toArray fuel (listed.set m true) K) σ) : JA S N l.toArray (fuel + 1) listed K σ :=
  .all [i, j, k, m] hr rfl fun x hx => by
    simp only [List.mem_cons, List.not_mem_nil, or_false] at hx
    rcases hx with rfl | rfl | rfl | rfl
    · exact ⟨_, h1, g1⟩
    · exact ⟨_, h2, g2⟩
    · exact ⟨_, h3, g3⟩
    · exact ⟨_, h4, g4⟩
end
end FM
