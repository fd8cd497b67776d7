/- A closure handed to a call that turns what the caller owns. No program in sight. -/
import Derived.Test.YtmndhhobdakpgaaDoorFs
import Derived.Test.YtmndhhobdakpgaaDoorFk
namespace FM
open Go Go.RowKit
set_option linter.all false
/-- What the closure captured is none of what is turned. -/
inductive CapsM (σ : St) (ms : List (Nat × Nat)) : List Nat → List AV → Prop
  | nil : CapsM σ ms [] []
  | cons {s ss x z zs} (h : get σ s = .av x) (hm : idxM ms s = none) (hz : x.sh = z) (r : CapsM σ ms ss zs) : CapsM σ ms (s :: ss) (z :: zs)
theorem CapsM.length {σ : St} {ms : List (Nat × Nat)} {ss : List Nat} {zs : List AV} (h : CapsM σ ms ss zs) : ss.length = zs.length := by induction h <;> simp_all
def shB (L : Nat → Lab) (b : Nat) : Prop := L b = .sh
open Classical in
noncomputable def onlyB (B : Nat → Prop) (b : Nat) : Lab := if B b then .sh else .fo
theorem CapsM.rep {S : Sys} {N : Nat} {σ : St} {ms : List (Nat × Nat)} {ss : List Nat} {zs : List AV} (h : CapsM σ ms ss zs) {w0 : World} {L0 : Nat → Lab} {a : Act} {w : World} {L : Nat → Lab} (hR : RelL S w0 L0 N σ a w L) : ∀ (i : Nat) z v, zs[i]? = some z → (ss.map fun s => a.tmps.getD s undef)[i]? = some v → Rep (onlyB fun b => inM ms L b = .sh) w none z v := by
  induction h with
  | nil => intro i z v hz; simp at hz
  | @cons s ss x z zs h hm hz r ih =>
    intro i z' v hz' hv
    cases i with
    | zero =>
      simp only [List.getElem?_cons_zero, Option.some.injEq, List.map_cons] at hz' hv
      subst hz'; subst hv; subst hz
      have hh := hR.hold s (own_lt hR h (by simp))
      rw [h] at hh
      refine Rep.toSh (fun b _ hb => ?_) hh (fun p hp b q hb => ?_)
      · unfold onlyB; rw [if_pos (inM_sh hb)]
      · cases hp; unfold onlyB; rw [if_pos (inM_no hb hm)]
    | succ i => exact ih i z' v (by simpa using hz') (by simpa using hv)
theorem ArgM.clo {S : Sys} {N : Nat} {σ : St} {P : Program} {dom : List AV → Prop} {r : List AV → AV} {ms : List (Nat × Nat)} {i f t : Nat} {caps : List Nat} {zs : List AV} (hP : P = S.P) (ht : get σ t = .clo f caps) (hc : CapsM σ ms caps zs) (hf : FnOk P f) (hs : ∀ as, dom as → FnSpec P f (as ++ zs) (as ++ zs) (r as)) (hr : ∀ as, dom as → (r as).flatPlain = true) : ArgM S N σ ms i (.tmp t) (.fn (BehA P dom r)) := by
  subst hP
  refine .fn fun w0 L0 a w L hR => ?_
  have hh := hR.hold t (own_lt hR ht (by simp))
  rw [ht] at hh
  simp only [Hold] at hh
  refine ⟨f, _, hh, hf, fun w' as vs hd hx hl hrep => ?_⟩
  have hcl : (caps.map fun s => a.tmps.getD s undef).length = zs.length := by rw [List.length_map, hc.length]
  have := (hs as hd).calls w' (fun _ => .sh) (vs ++ caps.map fun s => a.tmps.getD s undef) (by rw [List.length_append, List.length_append, hl, hcl]) (pre_none (fun _ _ h => by cases h) (fun _ _ h => by cases h)) (fun i x v hx' hv => by
    refine Rep.any ?_ _
    by_cases hi : i < as.length
    · rw [List.getElem?_append_left hi] at hx'
      rw [List.getElem?_append_left (by omega)] at hv
      exact hrep i x v hx' hv
    · rw [List.getElem?_append_right (by omega)] at hx'
      rw [List.getElem?_append_right (by omega), hl] at hv
      refine (hc.rep hR _ x v hx' hv).frame hx.size hx.os hx.tape hx.output (fun b hb hlt => ⟨rfl, hx.block b hlt ?_⟩) none (fun p hp => by cases hp)
      unfold onlyB at hb
      split at hb
      · assumption
      · cases hb)
  have e : vs.toArray ++ (caps.map fun s => a.tmps.getD s undef).toArray = (vs ++ caps.map fun s => a.tmps.getD s undef).toArray := by simp
  rw [e]
  refine this.mono fun e w'' ⟨v, L', he, hB⟩ => ?_
  subst he
  have h1 := hr as hd
  have hv : v = (r as).toV := by
    have h2 := hB.res
    generalize r as = y at *
    cases h2 <;> first | rfl | (simp [AV.flatPlain] at h1)
  subst hv
  exact ⟨rfl, ⟨hB.keep.os, hB.keep.tape, hB.keep.output, hB.keep.size, fun b hb => hB.keep.block b hb (fun p h => by cases h)⟩⟩
end FM
