/- A cell of a row that a box holds is stored to. No program in sight. -/
import Derived.Test.YtohgcgedbhlnfaaBx
namespace FM
open Go Go.RowKit
set_option linter.unusedVariables false
theorem e_stBR {S : Sys} {σ : St} {t : Nat} {ti : TI} {x v : Operand} {s i j : Nat} {y0 z : AV} {xs ys : List AV} {ty : Nat} {pos : String} {aft : Array Edge} {g : Option (Nat × Bool)} (hx : ov σ x = .rptr s i j y0) (hs : FM.get σ s = .av (.pt true xs)) (hxi : xs[i]? = some (.sl true 1 ys)) (hT : S.T t = some ti) (hv : ov σ v = .av z) (hz : z.isOwn = false) (hok : z.varOk = true) (hc : Nat.beq z.cells.length 1 = true) (hc2 : Nat.beq ti.size 1 = true) (hj : j < ys.length) :
    EStep S ⟨none, .store t x v, ty, pos, aft, g⟩ σ (σ.upd true s (.av (.pt true (xs.set i (.sl true 1 (ys.set j z)))))) := by
  intro w0 L0 N a w _ ⟨L, hR⟩
  have hc1 := Nat.eq_of_beq_eq_true hc
  have hc3 := Nat.eq_of_beq_eq_true hc2
  obtain ⟨_, ⟨b, hL, hp, _⟩, _⟩ := hold_plain hR hx (by simp)
  have hsN := own_lt hR hs (by simp)
  have hh := hR.hold s hsN
  rw [hs] at hh
  simp only [Hold] at hh
  obtain ⟨v1, v2, v3⟩ := val_cells hR hv hz hok
  generalize hsv : a.tmps.getD s undef = sv at hh
  cases hh with
  | @ptO p cs b' arr e u hL' hb hsz' hcell hr =>
    have hi : i < xs.length := (List.getElem?_eq_some_iff.1 hxi).1
    have hrow := hr i _ hxi
    obtain ⟨W, hrun, hsz, ho, ht, hu, hother, _, hrow'⟩ := set_core hT (L := L) (p := [s] ++ [i]) hL hR.lok.inj hrow hj hc1 hc3 v1 v2 (fun j y hy => by obtain ⟨u, h1, h2⟩ := v3 j y hy; exact ⟨u, h1, .inl h2⟩)
    rw [Nat.mul_one] at hrun
    have hbb : b' ≠ b := fun e => by subst e; rw [hL] at hL'; simp at hL'
    refine ⟨undef, W, .inr ⟨by simp only [execOp, hp, Sem.run_bind, hrun]; rfl, rfl⟩, L, hR.write (b := b) (q0 := [i]) hsN hL hsz ho ht hu hother ?_ true (fun _ => by simp)⟩
    rw [hsv]
    refine .ptO u hL' (by rw [hother _ hbb]; exact hb) (by rw [List.length_set]; exact hsz') (fun o ho => by rw [List.length_set] at ho; exact hcell o ho) (fun o y hy => ?_)
    rw [List.getElem?_set] at hy
    by_cases hoi : i = o
    · subst hoi
      rw [if_pos rfl, if_pos hi] at hy
      cases hy
      exact hrow'
    · rw [if_neg hoi] at hy
      refine Rep.frame (by omega) ho ht hu (fun k hk _ => ⟨hk, hother k (fun e => by subst e; rw [hL] at hk; cases hk)⟩) (hr o y hy) _ fun p' hp' => ⟨p', hp', fun k q hk => ⟨hk, hother k (fun e => ?_)⟩⟩
      cases hp'
      subst e
      rw [hL] at hk
      injection hk with hk
      simp at hk
      omega
theorem e_stBI {S : Sys} {σ : St} {t : Nat} {ti : TI} {x v : Operand} {s j : Nat} {y0 : AV} {ys : List Int} {n : Int} {ty : Nat} {pos : String} {aft : Array Edge} {g : Option (Nat × Bool)} (hx : ov σ x = .rptr s 0 j y0) (hs : FM.get σ s = .av (.pt true [rwO ys])) (hT : S.T t = some ti) (hv : ov σ v = .av (.int n)) (hc2 : Nat.beq ti.size 1 = true) (hj : j < ys.length) :
    EStep S ⟨none, .store t x v, ty, pos, aft, g⟩ σ (σ.upd true s (.av (.pt true [rwO (ys.set j n)]))) := by
  have := e_stBR (S := S) (ty := ty) (pos := pos) (aft := aft) (g := g) (t := t) (v := v) (z := .int n) (ys := ys.map .int) hx hs rfl hT hv rfl rfl rfl hc2 (by rw [List.length_map]; exact hj)
  rw [← List.map_set] at this
  exact this
/-- A call that turns what a box holds, handed on out of the box. -/
theorem J.callBox {S : Sys} {N : Nat} {σ : St} {P : Program} {f : Nat} {x x' : AV} {r : AV} {ops : Array Oper} {l : List Oper} {K : St → Prop} {d s t ty : Nat} {ts : Array Nat} {pos : String} {aft : Array Edge} {g : Option (Nat × Bool)} (hs : FnSpec P f [x] [x'] r) (hP : P = S.P) (hg : live ops g σ = some true)
    (h1 : FM.get σ t = .rref s 0 x) (h2 : FM.get σ s = .av (.pt true [x])) (hx : x ≠ .dead) (h3 : Nat.beq t d = false) (h4 : Nat.beq s d = false) (h5 : Nat.beq s t = false) (hr : NoSh r) (hn : NoSh x') (hc : x'.cells = [x'])
    (h : J false S N ops l K ((((((σ.upd false s (.av (.pt true [.dead]))).put t (.av x)).put d (.av r)).put t (.av x')).put t .none).upd false s (.av (.pt true [x'])))) :
    J false S N ops (⟨some d, .call ⟨.value (.func f), #[.tmp t], ts⟩, ty, pos, aft, g⟩ :: l) K σ := by
  subst hP
  unfold J at *
  intro hdo w0 L0 Q a w hQ hR
  obtain ⟨g1, g2⟩ := dstOk_cons hdo
  have hd := g1 d rfl
  have hw := live_wanted (o := ⟨some d, .call ⟨.value (.func f), #[.tmp t], ts⟩, ty, pos, aft, g⟩) hg hR
  simp only [wpList, hw, if_true]
  refine .inl ?_
  unfold Oper.wp
  rw [run_call (xs := [.tmp t]) hs.ok rfl rfl w, Oper.upon_enter]
  obtain ⟨L, hR⟩ := hR
  have hst := of_not_beq h5
  have htd := of_not_beq h3
  have hsd := of_not_beq h4
  have hsN := own_lt hR h2 (by simp)
  have htN := own_lt hR h1 (by simp)
  have hR1 := hR.takeBox (i := 0) h2 h1 hx hst (by simp)
  have hs0 := hR.hold s hsN
  rw [h2] at hs0
  simp only [Hold] at hs0
  obtain ⟨b1, hLb, hpv, hlt, _⟩ := pt_at hs0
  have ht0 := hR.hold t htN
  rw [h1] at ht0
  obtain ⟨b2, hLb2, hcell, _⟩ := ht0
  have hbb := hR.lok.inj _ _ _ hLb2 hLb
  subst hbb
  have e1 : FM.get ((σ.upd false s (.av (.pt true ([x].set 0 .dead)))).put t (.av x)) t = .av x := by simp [FM.get, Nat.beq_refl]
  have hms : MOk d 1 [(t, 0)] := .one h3 (by decide)
  have ha : ArgsM S N ((σ.upd false s (.av (.pt true ([x].set 0 .dead)))).put t (.av x)) [(t, 0)] 0 [.tmp t] [x] := .cons (.mu (s := t) (by unfold slotAt; simp only [e1]) e1 (by simp [idxM, Nat.beq_refl])) .nil
  have hLm : inM [(t, 0)] (mvl [s, 0] t L) b2 = .sh := inM_no (t := s) (q := []) (mvl_keep hLb hst (by simp [strip])) (by simp [idxM, not_beq (fun e => hst e.symm : t ≠ s)])
  have mem : ∀ {s' i : Nat}, idxM [(t, 0)] s' = some i → s' = t ∧ i = 0 := fun {s' i} hi => by
    simp only [idxM] at hi
    cases hb : Nat.beq t s' with
    | true => rw [hb, cond_true] at hi; injection hi with hi; exact ⟨(Nat.eq_of_beq_eq_true hb).symm, hi.symm⟩
    | false => rw [hb, cond_false] at hi; cases hi
  refine (hs.calls w (inM [(t, 0)] (mvl [s, 0] t L)) ([Operand.tmp t].map a.eval) rfl ⟨fun b p hb => ?_, fun b p hb => ?_, fun b b' p hb hb' => ?_, fun b hge hf => ?_⟩ (fun i y v hy hv => ?_)).mono fun e w' ⟨v, L', he, hB⟩ => ?_
  · obtain ⟨t', i, q, h3, _, _⟩ := inM_my hb; exact hR1.lok.lt b _ h3
  · obtain ⟨t', i, q, _, h3, h4⟩ := inM_my hb; exact ⟨i, q, h4, hms.lt _ _ h3⟩
  · obtain ⟨t1, i, q, h3, h4, h5⟩ := inM_my hb
    obtain ⟨t', i', q', h3', h4', h5'⟩ := inM_my hb'
    rw [h5] at h5'; cases h5'
    have e1 := hms.inv _ _ h4
    have e2 := hms.inv _ _ h4'
    rw [e1] at e2; cases e2
    exact hR1.lok.inj _ _ _ h3 h3'
  · have := inM_fo.1 hf
    exact hR1.lok.new b (Nat.le_trans hR1.keep.size hge) this
  · simp only [List.getElem?_map, Option.map_eq_some_iff] at hv
    obtain ⟨y', hy', rfl⟩ := hv
    have := (ha.get i y' y hy' hy).rep hR1
    rwa [Nat.zero_add] at this
  · subst he
    obtain ⟨L2, hR2⟩ := after_callM hR1 hd hms hB hr fun s' i hi => by
      obtain ⟨rfl, rfl⟩ := mem hi
      exact ⟨htN, rfl, x', rfl, hn⟩
    have hblk : w'.heap[b2]? = w.heap[b2]? := hB.keep.block b2 hlt fun q hq => by rw [hLm] at hq; cases hq
    have gs : FM.get (putM [(t, 0)] [x'] (((σ.upd false s (.av (.pt true ([x].set 0 .dead)))).put t (.av x)).put d (.av r))) s = .av (.pt true [.dead]) := by
      simp [putM, FM.get, not_beq (fun e => hst e.symm : t ≠ s), not_beq (fun e => hsd e.symm : d ≠ s), Nat.beq_refl, TV.kill]
    have gt : FM.get (putM [(t, 0)] [x'] (((σ.upd false s (.av (.pt true ([x].set 0 .dead)))).put t (.av x)).put d (.av r))) t = .av x' := by
      simp [putM, FM.get, Nat.beq_refl]
    have hR3 := hR2.intoBox (s := s) (i := 0) (t0 := t) gs gt hc (fun e => hst e.symm) (by simp) (fun b hb => by
      have hh := hR2.hold s hsN
      rw [gs] at hh
      simp only [Hold] at hh
      obtain ⟨b3, h31, h32, _, _⟩ := pt_at hh
      have e3 : (a.put (some d) v).tmps.getD s undef = a.tmps.getD s undef := getD_set_other (fun e => hsd e.symm)
      have e4 : (a.put (some d) v).tmps.getD t undef = a.tmps.getD t undef := getD_set_other (fun e => htd e.symm)
      rw [e3, hpv] at h32
      have h33 : b2 = b3 := by injection h32 with h; injection h with h; injection h
      have := hR2.lok.inj _ _ _ hb h31
      subst this
      rw [e4, ← h33, cell_of_heap hblk]
      exact hcell)
    exact h g2 w0 L0 Q _ w' hQ ⟨_, hR3⟩
/-- A box takes over what a slot owns, by a word that borrows it. -/
theorem e_stBq {S : Sys} {σ : St} {ty : Nat} {pos : String} {aft : Array Edge} {g : Option (Nat × Bool)} {t s t0 q : Nat} {ti : TI} {x0 r : AV} (hs : FM.get σ s = .av (.pt true [x0])) (hq : FM.get σ q = .ref t0) (ht0 : FM.get σ t0 = .av r) (hok : r.cellOk = true) (hst : Nat.beq t0 s = false) (hT : S.T t = some ti) (hc2 : Nat.beq ti.size 1 = true) :
    EStep S ⟨none, .store t (.tmp s) (.tmp q), ty, pos, aft, g⟩ σ (((σ.upd false s (.av (.pt true [.dead]))).put t0 .none).upd false s (.av (.pt true [r]))) := by
  intro w0 L0 N a w hd hR
  obtain ⟨v, w', h, hR'⟩ := e_stB (S := S) (ty := ty) (pos := pos) (aft := aft) (g := g) hs ht0 hok hst hT hc2 w0 L0 N a w hd hR
  refine ⟨v, w', ?_, hR'⟩
  obtain ⟨L, hR⟩ := hR
  have h2 := hR.hold q (own_lt hR hq (by simp))
  rw [hq] at h2
  have : a.eval (.tmp q) = a.eval (.tmp t0) := h2
  simpa only [execOp, this] using h
theorem pt_ints {l l' : List Int} (h : l = l') : TV.av (.pt true [.sl true 1 (l.map .int)]) = .av (.pt true [.sl true 1 (l'.map .int)]) := by rw [h]
end FM
