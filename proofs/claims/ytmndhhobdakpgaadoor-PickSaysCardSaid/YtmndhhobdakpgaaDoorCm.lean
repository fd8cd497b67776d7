/- A call that turns what a slot of the caller owns, by a contract that holds where it stands. No program in sight. -/
import Derived.Test.YtmndhhobdakpgaaDoorFs
namespace FM
open Go Go.RowKit
set_option linter.all false
/-- A call that turns what a slot of the caller owns, by a contract that holds where it stands. -/
theorem J.callMP {S : Sys} {N : Nat} {σ : St} {P : Program} {f : Nat} {as' : List AV} {r : AV} {x0 : AV} {op : Operand} {xs : List Operand} {ops : Array Oper} {l : List Oper} {K : St → Prop} {d s ty : Nat} {ts : Array Nat} {pos : String} {aft : Array Edge} {g : Option (Nat × Bool)} (hok : FnOk P f) (hP : P = S.P) (hg : live ops g σ = some true)
    (h1 : slotAt σ op = some s) (h2 : FM.get σ s = .av x0) (h3 : Nat.beq s d = false)
    (hs : ∀ (w0 : World) (L0 : Nat → Lab) (a : Act) (w : World) (L : Nat → Lab), RelL S w0 L0 N σ a w L → FM.Pre (xs.length + 1) (inM [(s, 0)] L) w → Rep (inM [(s, 0)] L) w (some [0]) x0 (a.eval op) →
      Calls P f ((op :: xs).map a.eval).toArray w fun e w' => ∃ v L', e = .returned v ∧ FM.Back (xs.length + 1) as' r (inM [(s, 0)] L) w ((op :: xs).map a.eval) v w' L')
    (hr : NoSh r) (hx : ∃ y, as'[0]? = some y ∧ NoSh y) (h : J false S N ops l K (putM [(s, 0)] as' (σ.put d (.av r)))) :
    J false S N ops (⟨some d, .call ⟨.value (.func f), (op :: xs).toArray, ts⟩, ty, pos, aft, g⟩ :: l) K σ := by
  subst hP
  unfold J at *
  intro hdo w0 L0 Q a w hQ hR
  obtain ⟨hd1, hd2⟩ := dstOk_cons hdo
  have hd := hd1 d rfl
  have hw := live_wanted (o := ⟨some d, .call ⟨.value (.func f), (op :: xs).toArray, ts⟩, ty, pos, aft, g⟩) hg hR
  simp only [wpList, hw, if_true]
  refine .inl ?_
  unfold Oper.wp
  rw [run_call hok rfl rfl w, Oper.upon_enter]
  obtain ⟨L, hR⟩ := hR
  have hms : MOk d (xs.length + 1) [(s, 0)] := .one h3 (by simp [Nat.blt])
  have hA : ArgM S N σ [(s, 0)] 0 op x0 := .mu h1 h2 (by simp [idxM, Nat.beq_refl])
  refine (hs w0 L0 a w L hR ⟨fun b p hb => ?_, fun b p hb => ?_, fun b b' p hb hb' => ?_, fun b hge hf => ?_⟩ (hA.rep hR)).mono fun e w' ⟨v, L', he, hB⟩ => ?_
  · obtain ⟨t, i, q, h3, _, _⟩ := inM_my hb; exact hR.lok.lt b _ h3
  · obtain ⟨t, i, q, _, h3, h4⟩ := inM_my hb; exact ⟨i, q, h4, hms.lt _ _ h3⟩
  · obtain ⟨t, i, q, h3, h4, h5⟩ := inM_my hb
    obtain ⟨t', i', q', h3', h4', h5'⟩ := inM_my hb'
    rw [h5] at h5'; cases h5'
    have e1 := hms.inv _ _ h4
    have e2 := hms.inv _ _ h4'
    rw [e1] at e2; cases e2
    exact hR.lok.inj _ _ _ h3 h3'
  · have := inM_fo.1 hf
    exact hR.lok.new b (Nat.le_trans hR.keep.size hge) this
  · subst he
    refine h hd2 w0 L0 Q _ w' hQ (after_callM hR hd hms hB hr fun s' i hi => ?_)
    simp only [idxM] at hi
    cases hb : Nat.beq s s' with
    | false => rw [hb, cond_false] at hi; cases hi
    | true =>
      rw [hb, cond_true] at hi
      have := Nat.eq_of_beq_eq_true hb
      subst this
      cases hi
      obtain ⟨e1, e2, _⟩ := slotAt_ev h1 h2 hR
      exact ⟨e1, by simp [e2], hx⟩
/-- A contract that says less of the result. -/
theorem FnSpec.le {P : Program} {f : Nat} {as as' : List AV} {r r' : AV} (h : FnSpec P f as as' r) (hl : AV.le r r') : FnSpec P f as as' r' :=
  ⟨h.ok, fun w L vs h1 h2 h3 => (h.calls w L vs h1 h2 h3).mono fun e w' ⟨v, L', he, hB⟩ => ⟨v, L', he, hB.keep, hB.lok, hB.head, hB.args, Rep.le hl hB.res⟩⟩
end FM
