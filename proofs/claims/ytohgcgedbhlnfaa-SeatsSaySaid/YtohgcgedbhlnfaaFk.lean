/- Function values: what one does, calls of one, closures. No program in sight. -/
import Derived.Test.YtohgcgedbhlnfaaFq
namespace FM
open Go Go.RowKit
set_option linter.unusedVariables false
/-- A later world, in which the blocks of B are as they were. -/
structure ExtB (B : Nat → Prop) (w w' : World) : Prop where
  os : w'.os = w.os
  tape : w'.tape = w.tape
  output : w'.output = w.output
  size : w.heap.size ≤ w'.heap.size
  block : ∀ b, b < w.heap.size → B b → w'.heap[b]? = w.heap[b]?
/-- Handed what reads as 'as' (of which 'dom' holds) the function value returns the plain value 'r as', and turns nothing. -/
def BehA (P : Program) (dom : List AV → Prop) (r : List AV → AV) : Beh := ⟨fun wE B v => ∃ f cap, v = .func (.func f) #[] cap ∧ FnOk P f ∧ ∀ (w : World) (xs9 : List AV) (vs : List Value), dom xs9 →
  ExtB B wE w → Glob (fun _ => .sh) w → vs.length = xs9.length →
  (∀ (i : Nat) x u, xs9[i]? = some x → vs[i]? = some u → Rep (fun _ => .sh) w none x u) → Calls P f (vs.toArray ++ cap) w fun e w' => e = .returned (r xs9).toV ∧ Ext w w'⟩

theorem beh_of_spec {P : Program} {dom : List AV → Prop} {r : List AV → AV} {f : Nat} (hf : FnOk P f) (hs : ∀ xs9, dom xs9 → FnSpec P f xs9 xs9 (r xs9)) (hr : ∀ xs9, dom xs9 → (r xs9).flatPlain = true) (w : World) (B : Nat → Prop) : (BehA P dom r).holds w B (.func (.func f) #[] #[]) := by
  refine ⟨f, #[], rfl, hf, fun w xs9 vs hd _ hgl hl hrep => ?_⟩
  have := (hs xs9 hd).calls w (fun _ => .sh) vs hl (pre_none (fun _ _ h => by cases h) (fun _ _ h => by cases h) hgl) (fun i x v hx hv => (hrep i x v hx hv).any _)
  simp only [Array.append_empty]
  refine this.mono fun e w' ⟨v, L', he, hB⟩ => ?_
  subst he
  have h1 := hr xs9 hd
  have hv : v = (r xs9).toV := by
    have h2 := hB.res
    generalize r xs9 = y at *
    cases h2 <;> first | rfl | (simp [AV.flatPlain] at h1)
  subst hv
  exact ⟨rfl, ⟨hB.keep.os, hB.keep.tape, hB.keep.output, hB.keep.size, fun b hb => hB.keep.block b hb (fun p h => by cases h)⟩⟩

section
variable {S : Sys} {N : Nat} {σ : St}
theorem run_callF {P : Program} {f : Nat} {cap : Array Value} (hf : FnOk P f) {ρ : Operand → Value} {t : Operand} {xs : List Operand} {ts : Array Nat} {o : Oper} (ho : o.op = .call ⟨.value t, xs.toArray, ts⟩) (hρ : ρ t = .func (.func f) #[] cap) (w : World) :
    (execOp ρ o).run P w = .ok (.enter f ((xs.map ρ).toArray ++ cap)) w := by
  obtain ⟨fn, h1, h2, h3⟩ := hf.out
  simp only [execOp, ho, resolve, hρ, Deferred.ofValue, Sem.run_bind, Sem.run_pure, Result.andThen_ok, invoke, callFunc, run_program, h1, h2, h3]
  simp

theorem callF_core {dom : List AV → Prop} {r : List AV → AV} {xs9 : List AV} {t : Operand} {xs : List Operand} {b : Bool} (ht : ov σ t = .av (.fn (BehA S.P dom r))) (hd : dom xs9) (ha : ArgsOk S N σ xs b xs9) {w0 : World} {L0 : Nat → Lab} {a : Act} {w : World} (hR : Rel S w0 L0 N σ a w) :
    ∃ f cap, a.eval t = .func (.func f) #[] cap ∧ FnOk S.P f ∧ Calls S.P f ((xs.map a.eval).toArray ++ cap) w fun e w' => e = .returned (r xs9).toV ∧ Ext w w' := by
  obtain ⟨L, hR⟩ := hR
  obtain ⟨n, hn⟩ := ev_av hR ht
  generalize a.eval t = v at hn
  cases hn with
  | @fn _ _ _ wE _ h hs ho ht' hu hb =>
    obtain ⟨f, cap, h1, h2, h3⟩ := h
    refine ⟨f, cap, h1, h2, h3 w xs9 _ hd ⟨ho, ht', hu, hs, fun b hb' hB => (hb b hb' hB).2⟩ hR.globNow.all (by rw [List.length_map, ha.length]) fun i x v hx hv => ?_⟩
    simp only [List.getElem?_map, Option.map_eq_some_iff] at hv
    obtain ⟨y, hy, rfl⟩ := hv
    obtain ⟨c, hc, _⟩ := ha.get i y x hy hx
    exact hc.readN hR

variable {dom : List AV → Prop} {r : List AV → AV} {xs9 : List AV} {t : Operand} {xs : List Operand} {b : Bool} {y : AV} {P : Program} {ops : Array Oper} {l : List Oper} {K : St → Prop} {d ty : Nat} {ts : Array Nat} {pos : String} {aft : Array Edge} {g : Option (Nat × Bool)}
theorem put_flat {w0 : World} {L0 : Nat → Lab} {a : Act} {w : World} (hR : Rel S w0 L0 N σ a w) (hd : DOk S N d) (hr : y.flatPlain = true) : Rel S w0 L0 N (σ.put d (.av y)) (a.put (some d) y.toV) w := by
  obtain ⟨L, hR⟩ := hR
  refine Rel.putPlain (n := d) hR hd ?_ rfl (toV_rep hr)
  cases y <;> first | rfl | (simp [AV.flatPlain] at hr)
/-- A call of a function value. -/
theorem J.callF (xs9 : List AV) (ht : ov σ t = .av (.fn (BehA P dom r))) (hP : P = S.P) (hg : live ops g σ = some true) (hd : dom xs9) (ha : ArgsOk S N σ xs b xs9) (hy : r xs9 = y) (hr : y.flatPlain = true) (h : J false S N ops l K (σ.put d (.av y))) :
    J false S N ops (⟨some d, .call ⟨.value t, xs.toArray, ts⟩, ty, pos, aft, g⟩ :: l) K σ := by
  subst hP; subst hy
  unfold J at *
  intro hdo w0 L0 Q a w hQ hR
  obtain ⟨h1, h2⟩ := dstOk_cons hdo
  have hw := live_wanted (o := ⟨some d, .call ⟨.value t, xs.toArray, ts⟩, ty, pos, aft, g⟩) hg hR
  simp only [wpList, hw, if_true]
  refine .inl ?_
  obtain ⟨f, cap, e1, hf, hc⟩ := callF_core ht hd ha hR
  unfold Oper.wp
  rw [run_callF hf rfl e1 w, Oper.upon_enter]
  refine hc.mono fun e w' ⟨he, hx⟩ => ?_
  subst he
  exact h h2 w0 L0 Q _ w' hQ (put_flat (hR.ext hx) (h1 d rfl) hr)
theorem J.callFQ (xs9 : List AV) (ht : ov σ t = .av (.fn (BehA P dom r))) (hP : P = S.P) (hg : live ops g σ = some true) (hd : dom xs9) (ha : ArgsOk S N σ xs b xs9) (hy : r xs9 = y) (hr : y.flatPlain = true) (h : J true S N ops l K (σ.put d (.av y))) :
    J true S N ops (⟨some d, .call ⟨.value t, xs.toArray, ts⟩, ty, pos, aft, g⟩ :: l) K σ := by
  subst hP; subst hy
  unfold J at *
  intro hdo w0 L0 Q a w hQ hR
  obtain ⟨h1, h2⟩ := dstOk_cons hdo
  have hw := live_wanted (o := ⟨some d, .call ⟨.value t, xs.toArray, ts⟩, ty, pos, aft, g⟩) hg hR
  simp only [wpQuiet, hw, if_true]
  refine ⟨(r xs9).toV, fun w' hw' => ?_, h h2 w0 L0 Q _ w hQ (put_flat hR (h1 d rfl) hr)⟩
  unfold Oper.quietAt
  obtain ⟨f, cap, e1, hf, hc⟩ := callF_core ht hd ha (hR.ext hw')
  rw [run_callF hf rfl e1 w']
  exact ⟨rfl, hc.mono fun e w'' ⟨he, hx⟩ => ⟨he, hw'.trans hx⟩⟩
/-- A function of the program, handed as a value. -/
theorem ArgOk.func {f : Nat} (hP : P = S.P) (hf : FnOk P f) (hs : ∀ xs9, dom xs9 → FnSpec P f xs9 xs9 (r xs9)) (hr : ∀ xs9, dom xs9 → (r xs9).flatPlain = true) : ArgOk S N σ (.func f) true (.fn (BehA P dom r)) := by
  subst hP
  exact .fn fun w0 L0 a w _ => beh_of_spec hf hs hr w _

/-! ### closures -/
theorem s_mkf {f : Nat} {caps : List Nat} (hc : caps.all (fun s => !Nat.beq s d) = true) (hg : caps.all (fun s => match get σ s with | .none => false | _ => true) = true) : Step S ⟨some d, .makeFunc (.func f) #[] (caps.map Operand.tmp).toArray, ty, pos, aft, g⟩ σ (σ.put d (.clo f caps)) := by
  intro w0 L0 N a w hN ⟨L, h⟩
  refine ⟨.func (.func f) #[] ((caps.map Operand.tmp).toArray.map a.eval), fun w' _ => by simp [execOp, Instr.makeFunc], _, h.put (hN d rfl) ?_⟩
  simp only [Hold]
  congr 1
  rw [List.map_toArray, List.map_map]
  congr 1
  refine List.map_congr_left fun s hs => ?_
  have := List.all_eq_true.1 hc s hs
  simp only [Bool.not_eq_true'] at this
  simp only [Function.comp, Act.eval]
  rw [getD_set_other (fun e => of_not_beq this e.symm)]
/-- What the closure captured, as a callee reads it. -/
inductive CapsOk (σ : St) : List Nat → List AV → Prop
  | nil : CapsOk σ [] []
  | cons {s ss x z zs} (h : get σ s = .av x) (hz : x.sh = z) (r : CapsOk σ ss zs) : CapsOk σ (s :: ss) (z :: zs)
theorem CapsOk.length {ss : List Nat} {zs : List AV} (h : CapsOk σ ss zs) : ss.length = zs.length := by induction h <;> simp_all
theorem CapsOk.rep {ss : List Nat} {zs : List AV} (h : CapsOk σ ss zs) {w0 : World} {L0 : Nat → Lab} {a : Act} {w : World} {L : Nat → Lab} (hR : RelL S w0 L0 N σ a w L) : ∀ (i : Nat) z v, zs[i]? = some z → (ss.map fun s => a.tmps.getD s undef)[i]? = some v → Rep (fun _ => .sh) w none z v := by
  induction h with
  | nil => intro i z v hz; simp at hz
  | @cons s ss x z zs h hz r ih =>
    intro i z' v hz' hv
    cases i with
    | zero =>
      simp only [List.getElem?_cons_zero, Option.some.injEq, List.map_cons] at hz' hv
      subst hz'; subst hv; subst hz
      have hh := hR.hold s (own_lt hR h (by simp))
      rw [h] at hh
      exact Rep.toSh (fun _ _ _ => rfl) hh (fun _ _ _ _ _ => rfl)
    | succ i => exact ih i z' v (by simpa using hz') (by simpa using hv)
theorem ArgOk.clo {f t : Nat} {caps : List Nat} {zs : List AV} (hP : P = S.P) (ht : get σ t = .clo f caps) (hc : CapsOk σ caps zs) (hf : FnOk P f) (hs : ∀ xs9, dom xs9 → FnSpec P f (xs9 ++ zs) (xs9 ++ zs) (r xs9)) (hr : ∀ xs9, dom xs9 → (r xs9).flatPlain = true) : ArgOk S N σ (.tmp t) true (.fn (BehA P dom r)) := by
  subst hP
  refine .fn fun w0 L0 a w ⟨L, hR⟩ => ?_
  have hh := hR.hold t (own_lt hR ht (by simp))
  rw [ht] at hh
  simp only [Hold] at hh
  refine ⟨f, _, hh, hf, fun w' xs9 vs hd hx hgl hl hrep => ?_⟩
  have hcl : (caps.map fun s => a.tmps.getD s undef).length = zs.length := by rw [List.length_map, hc.length]
  have := (hs xs9 hd).calls w' (fun _ => .sh) (vs ++ caps.map fun s => a.tmps.getD s undef) (by rw [List.length_append, List.length_append, hl, hcl]) (pre_none (fun _ _ h => by cases h) (fun _ _ h => by cases h) hgl) (fun i x v hx' hv => by
    refine Rep.any ?_ _
    by_cases hi : i < xs9.length
    · rw [List.getElem?_append_left hi] at hx'
      rw [List.getElem?_append_left (by omega)] at hv
      exact hrep i x v hx' hv
    · rw [List.getElem?_append_right (by omega)] at hx'
      rw [List.getElem?_append_right (by omega), hl] at hv
      exact (hc.rep hR _ x v hx' hv).frame hx.size hx.os hx.tape hx.output (fun b _ hb => ⟨rfl, hx.block b hb trivial⟩) none (fun p hp => by cases hp))
  have e : vs.toArray ++ (caps.map fun s => a.tmps.getD s undef).toArray = (vs ++ caps.map fun s => a.tmps.getD s undef).toArray := by simp
  rw [e]
  refine this.mono fun e w'' ⟨v, L', he, hB⟩ => ?_
  subst he
  have h1 := hr xs9 hd
  have hv : v = (r xs9).toV := by
    have h2 := hB.res
    generalize r xs9 = y at *
    cases h2 <;> first | rfl | (simp [AV.flatPlain] at h1)
  subst hv
  exact ⟨rfl, ⟨hB.keep.os, hB.keep.tape, hB.keep.output, hB.keep.size, fun b hb => hB.keep.block b hb (fun p h => by cases h)⟩⟩
end
end FM
