/- Calls of closures that the caller has made itself. No program in sight. -/
import Derived.Test.YtohgcgedbhlnfaaFs
namespace FM
open Go Go.RowKit
set_option linter.all false
section
variable {S : Sys} {N : Nat} {σ : St}
theorem clo_eval {t f : Nat} {caps : List Nat} (ht : get σ t = .clo f caps) {w0 : World} {L0 : Nat → Lab} {a : Act} {w : World} {L : Nat → Lab} (hR : RelL S w0 L0 N σ a w L) : a.eval (.tmp t) = .func (.func f) #[] ((caps.map Operand.tmp).map a.eval).toArray := by
  have hf := hR.hold t (own_lt hR ht (by simp))
  rw [ht] at hf
  simp only [Hold] at hf
  show a.tmps.getD t undef = _
  rw [hf, List.map_map]; rfl
/-- A call of a closure: what it caught comes behind the arguments; some arguments are turned. -/
theorem J.cloM {P : Program} {f t : Nat} {caps : List Nat} {as : List AV} {R : List AV → AV → Prop} {xs : List Operand} {ops : Array Oper} {l : List Oper} {K : St → Prop} {d ty : Nat} {ts : Array Nat} {pos : String} {aft : Array Edge} {g : Option (Nat × Bool)} (ms : List (Nat × Nat)) (ht : get σ t = .clo f caps) (hs : FnSpecE P f as R) (hP : P = S.P) (hg : live ops g σ = some true) (hms : MOk d as.length ms) (ha : ArgsM S N σ ms 0 (xs ++ caps.map Operand.tmp) as)
    (hc : ms.all (fun e => match (xs ++ caps.map Operand.tmp)[e.2]? with | some x => (match slotAt σ x, FM.get σ e.1 with | some s, .av _ => Nat.beq s e.1 | _, _ => false) | none => false) = true)
    (hn : ∀ as' r, R as' r → NoSh r ∧ ∀ e ∈ ms, ∃ y, as'[e.2]? = some y ∧ NoSh y) (h : ∀ as' r, R as' r → J false S N ops l K (putM ms as' (σ.put d (.av r)))) :
    J false S N ops (⟨some d, .call ⟨.value (.tmp t), xs.toArray, ts⟩, ty, pos, aft, g⟩ :: l) K σ := by
  subst hP
  unfold J at *
  intro hdo w0 L0 Q a w hQ hR
  obtain ⟨h1, h2⟩ := dstOk_cons hdo
  have hd := h1 d rfl
  have hw := live_wanted (o := ⟨some d, .call ⟨.value (.tmp t), xs.toArray, ts⟩, ty, pos, aft, g⟩) hg hR
  simp only [wpList, hw, if_true]
  refine .inl ?_
  unfold Oper.wp
  obtain ⟨L, hR⟩ := hR
  rw [run_callF hs.ok rfl (clo_eval ht hR) w, Oper.upon_enter]
  have hargs : (xs.map a.eval).toArray ++ ((caps.map Operand.tmp).map a.eval).toArray = ((xs ++ caps.map Operand.tmp).map a.eval).toArray := by rw [List.map_append]; simp
  rw [hargs]
  generalize xs ++ caps.map Operand.tmp = zs at *
  have mem : ∀ {ms : List (Nat × Nat)} {s i : Nat}, idxM ms s = some i → (s, i) ∈ ms := fun {ms s i} hi => by
    induction ms with
    | nil => cases hi
    | cons e r ih =>
      obtain ⟨s', i'⟩ := e
      simp only [idxM] at hi
      cases hb : Nat.beq s' s with
      | true => rw [hb, cond_true] at hi; injection hi with hi; subst hi; have := Nat.eq_of_beq_eq_true hb; subst this; exact List.mem_cons_self ..
      | false => rw [hb, cond_false] at hi; exact List.mem_cons_of_mem _ (ih hi)
  have hlen := ha.length
  refine (hs.calls w (inM ms L) (zs.map a.eval) (by rw [List.length_map, hlen]) ⟨fun b p hb => ?_, fun b p hb => ?_, fun b b' p hb hb' => ?_, fun b hge hf => ?_⟩ (fun i x v hx hv => ?_)).mono fun e w' ⟨v, L', as', r, he, hRR, hB⟩ => ?_
  · obtain ⟨t, i, q, h3, _, _⟩ := inM_my hb; exact hR.lok.lt b _ h3
  · obtain ⟨t, i, q, _, h3, h4⟩ := inM_my hb; exact ⟨i, q, h4, hms.lt _ _ h3⟩
  · obtain ⟨t, i, q, h3, h4, h5⟩ := inM_my hb
    obtain ⟨t', i', q', h3', h4', h5'⟩ := inM_my hb'
    rw [h5] at h5'; cases h5'
    have e1 := hms.inv _ _ h4
    have e2 := hms.inv _ _ h4'
    rw [e1] at e2; cases e2
    exact hR.lok.inj _ _ _ h3 h3'
  · have := inM_fo.1 hf
    exact hR.lok.new b (Nat.le_trans hR.keep.size hge) this
  · simp only [List.getElem?_map, Option.map_eq_some_iff] at hv
    obtain ⟨y, hy, rfl⟩ := hv
    have := (ha.get i y x hy hx).rep hR
    rwa [Nat.zero_add] at this
  · subst he
    obtain ⟨hnr, hny⟩ := hn as' r hRR
    refine h as' r hRR h2 w0 L0 Q _ w' hQ (after_callM hR hd hms hB hnr fun s i hi => ?_)
    have hmem := mem hi
    have hcc := List.all_eq_true.1 hc _ hmem
    simp only at hcc
    split at hcc
    · rename_i x hx
      split at hcc
      · rename_i s' y' hs' hy'
        have := Nat.eq_of_beq_eq_true hcc
        subst this
        obtain ⟨e1, e2, _⟩ := slotAt_ev hs' hy' hR
        exact ⟨e1, by rw [List.getElem?_map, hx, Option.map_some, e2], hny _ hmem⟩
      · cases hcc
    · cases hcc
theorem MOk.nil {d n : Nat} : MOk d n [] := ⟨fun s i h => (by cases h), fun i s h => (by cases h), fun s i h => (by cases h), rfl⟩
/-- .. none is turned. -/
theorem J.cloP {P : Program} {f t : Nat} {caps : List Nat} {as : List AV} {r : AV} {xs : List Operand} {ops : Array Oper} {l : List Oper} {K : St → Prop} {d ty : Nat} {ts : Array Nat} {pos : String} {aft : Array Edge} {g : Option (Nat × Bool)} (hs : FnSpec P f as as r) (hP : P = S.P) (ht : get σ t = .clo f caps) (hg : live ops g σ = some true) (ha : ArgsM S N σ [] 0 (xs ++ caps.map Operand.tmp) as) (hr : NoSh r) (h : J false S N ops l K (σ.put d (.av r))) :
    J false S N ops (⟨some d, .call ⟨.value (.tmp t), xs.toArray, ts⟩, ty, pos, aft, g⟩ :: l) K σ :=
  J.cloM [] ht hs.toE hP hg .nil ha rfl (fun as' r' ⟨h1, h2⟩ => ⟨h2 ▸ hr, fun e he => by cases he⟩) (fun as' r' ⟨h1, h2⟩ => by subst h2; exact h)
theorem sh_box {o : Bool} {c : Nat} {l : List Int} : (AV.pt true [.sl o c (l.map .int)]).sh = .pt false [.sl false c (l.map .int)] := by
  simp only [AV.sh, AV.shL]
  rw [shL_map AV.int l AV.int (fun _ => rfl)]
end
end FM
