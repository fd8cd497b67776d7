/- Literals of what is borrowed, handed on at once; closures that turn two of what they caught; structs behind a quiet head. No program in sight. -/
import Derived.Test.YtohgcgedbhlnfaaCg
import Derived.Test.YtohgcgedbhlnfaaCl
namespace FM
open Go Go.RowKit
set_option linter.all false
section
variable {S : Sys} {N : Nat} {σ : St}
theorem FnSpec.enterM (M : Nat → Bool) {f : Nat} {fn : Func} {c : Code} {rvs : List ResultVar} {bs bs' : List AV} {r : AV} (hf : S.P.funcs[f]? = some fn) (hb : fn.body = some c) (hname : (fn.name == "runtime.NumGoroutine") = false) (hr : fn.results = rvs.toArray) (hN : fn.ntmps = N)
    (hlen : Nat.ble bs.length N = true) (hidx : idxOk (rvs.map ResultVar.slot) = true) (hge : (rvs.map ResultVar.slot).all (fun t => Nat.ble bs.length t) = true)
    (hm : ∀ i, M i = true → i < bs.length) (h : ∀ v0, CW (S.fixedF M v0) N c (Ret (S.fixedF M v0) rvs bs bs' r) (ofL (initL 0 bs))) : FnSpec S.P f bs bs' r :=
  (FnSpecE.enter (R := fun x y => x = bs' ∧ y = r) M hf hb hname hr hN hlen hidx hge hm fun v0 => (h v0).mono fun e σ' hret => ⟨_, _, ⟨rfl, rfl⟩, hret⟩).toFn fun _ _ h => h
theorem MOk.two {d n s i s' i' : Nat} (h1 : Nat.beq s d = false) (h2 : Nat.blt i n = true) (h3 : Nat.beq s' d = false) (h4 : Nat.blt i' n = true) (h5 : Nat.beq s s' = false) (h6 : Nat.beq i i' = false) : MOk d n [(s, i), (s', i')] := by
  have hss : s ≠ s' := fun e => by subst e; rw [Nat.beq_refl] at h5; cases h5
  have hii : i ≠ i' := fun e => by subst e; rw [Nat.beq_refl] at h6; cases h6
  have e1 : ∀ t j, idxM [(s, i), (s', i')] t = some j ↔ (t = s ∧ j = i) ∨ (t = s' ∧ j = i') := fun t j => by
    simp only [idxM]
    cases hb : Nat.beq s t with
    | true =>
      have := Nat.eq_of_beq_eq_true hb; subst this
      simp only [cond_true, Option.some.injEq]
      constructor
      · intro h; exact .inl ⟨trivial, h.symm⟩
      · rintro (⟨_, h⟩ | ⟨h, _⟩)
        · exact h.symm
        · exact absurd h hss
    | false =>
      have n1 : t ≠ s := fun e => by subst e; rw [Nat.beq_refl] at hb; cases hb
      simp only [cond_false]
      cases hb' : Nat.beq s' t with
      | true =>
        have := Nat.eq_of_beq_eq_true hb'; subst this
        simp only [cond_true, Option.some.injEq]
        constructor
        · intro h; exact .inr ⟨trivial, h.symm⟩
        · rintro (⟨h, _⟩ | ⟨_, h⟩)
          · exact absurd h n1
          · exact h.symm
      | false =>
        have n2 : t ≠ s' := fun e => by subst e; rw [Nat.beq_refl] at hb'; cases hb'
        simp only [cond_false]
        constructor
        · intro h; cases h
        · rintro (⟨h, _⟩ | ⟨h, _⟩)
          · exact absurd h n1
          · exact absurd h n2
  have e2 : ∀ j t, slotM [(s, i), (s', i')] j = some t ↔ (j = i ∧ t = s) ∨ (j = i' ∧ t = s') := fun j t => by
    simp only [slotM]
    cases hb : Nat.beq i j with
    | true =>
      have := Nat.eq_of_beq_eq_true hb; subst this
      simp only [cond_true, Option.some.injEq]
      constructor
      · intro h; exact .inl ⟨trivial, h.symm⟩
      · rintro (⟨_, h⟩ | ⟨h, _⟩)
        · exact h.symm
        · exact absurd h hii
    | false =>
      have n1 : j ≠ i := fun e => by subst e; rw [Nat.beq_refl] at hb; cases hb
      simp only [cond_false]
      cases hb' : Nat.beq i' j with
      | true =>
        have := Nat.eq_of_beq_eq_true hb'; subst this
        simp only [cond_true, Option.some.injEq]
        constructor
        · intro h; exact .inr ⟨trivial, h.symm⟩
        · rintro (⟨h, _⟩ | ⟨_, h⟩)
          · exact absurd h n1
          · exact h.symm
      | false =>
        have n2 : j ≠ i' := fun e => by subst e; rw [Nat.beq_refl] at hb'; cases hb'
        simp only [cond_false]
        constructor
        · intro h; cases h
        · rintro (⟨h, _⟩ | ⟨h, _⟩)
          · exact absurd h n1
          · exact absurd h n2
  have l1 : i < n := by simp [Nat.blt] at h2; omega
  have l2 : i' < n := by simp [Nat.blt] at h4; omega
  refine ⟨fun t j h => ?_, fun j t h => ?_, fun t j h => ?_, ?_⟩
  · exact (e2 j t).2 (by rcases (e1 t j).1 h with ⟨a, b⟩ | ⟨a, b⟩; exact .inl ⟨b, a⟩; exact .inr ⟨b, a⟩)
  · exact (e1 t j).2 (by rcases (e2 j t).1 h with ⟨a, b⟩ | ⟨a, b⟩; exact .inl ⟨b, a⟩; exact .inr ⟨b, a⟩)
  · rcases (e1 t j).1 h with ⟨_, b⟩ | ⟨_, b⟩ <;> omega
  · cases hx : idxM [(s, i), (s', i')] d with
    | none => rfl
    | some j =>
      rcases (e1 d j).1 hx with ⟨a, _⟩ | ⟨a, _⟩
      · subst a; rw [Nat.beq_refl] at h1; cases h1
      · subst a; rw [Nat.beq_refl] at h3; cases h3
theorem RelL.reclo {w0 : World} {L0 : Nat → Lab} {a : Act} {w : World} {L : Nat → Lab} {f : Nat} {caps : List Nat} (u : Nat) (hu : u < N) (hh : a.tmps.getD u undef = .func (.func f) #[] (caps.map fun s => a.tmps.getD s undef).toArray) (hR : RelL S w0 L0 N σ a w L) : RelL S w0 L0 N (σ.put u (.clo f caps)) a w L := by
  refine ⟨hR.defers, hR.size, hR.keep, hR.lok, fun n hn => ?_, fun n hn => ?_, hR.fix⟩
  · simp only [get, kill_eq]
    by_cases hun : u = n
    · subst hun
      rw [Nat.beq_refl, cond_true]
      exact hh
    · rw [not_beq hun, cond_false]
      cases (get σ n).dep u
      · exact hR.hold n hn
      · trivial
  · simp only [get, kill_eq]
    rw [not_beq (show u ≠ n by omega), cond_false, hR.out n hn]; rfl
/-- A call of a closure, told by a relation; what else holds the closure still does. -/
theorem J.cloMu {P : Program} {f t u : Nat} {caps : List Nat} {bs : List AV} {R : List AV → AV → Prop} {xs : List Operand} {ops : Array Oper} {l : List Oper} {K : St → Prop} {d ty : Nat} {ts : Array Nat} {pos : String} {aft : Array Edge} {g : Option (Nat × Bool)} (ms : List (Nat × Nat)) (ht : get σ t = .clo f caps) (hu : get σ u = .clo f caps) (hud : Nat.beq u d = false) (hcd : caps.all (fun m => !Nat.beq m d) = true) (hs : FnSpecE P f bs R) (hP : P = S.P) (hg : live ops g σ = some true) (hms : MOk d bs.length ms) (ha : ArgsM S N σ ms 0 (xs ++ caps.map Operand.tmp) bs)
    (hc : ms.all (fun e => match (xs ++ caps.map Operand.tmp)[e.2]? with | some x => (match slotAt σ x, FM.get σ e.1 with | some s, .av _ => Nat.beq s e.1 | _, _ => false) | none => false) = true)
    (hn : ∀ bs' r, R bs' r → NoSh r ∧ ∀ e ∈ ms, ∃ y, bs'[e.2]? = some y ∧ NoSh y) (h : ∀ bs' r, R bs' r → J false S N ops l K ((putM ms bs' (σ.put d (.av r))).put u (.clo f caps))) :
    J false S N ops (⟨some d, .call ⟨.value (.tmp t), xs.toArray, ts⟩, ty, pos, aft, g⟩ :: l) K σ := by
  subst hP
  unfold J at *
  intro hdo w0 L0 Q a w hQ hR
  obtain ⟨h1, h2⟩ := dstOk_cons hdo
  have hd := h1 d rfl
  have hw := live_wanted (o := ⟨some d, .call ⟨.value (.tmp t), xs.toArray, ts⟩, ty, pos, aft, g⟩) hg hR
  simp only [wpList, hw, if_true]
  refine .inl ?_
  unfold Oper.wp
  obtain ⟨L, hR⟩ := hR
  rw [run_callF hs.ok rfl (clo_eval ht hR) w, Oper.upon_enter]
  have hargs : (xs.map a.eval).toArray ++ ((caps.map Operand.tmp).map a.eval).toArray = ((xs ++ caps.map Operand.tmp).map a.eval).toArray := by rw [List.map_append]; simp
  rw [hargs]
  generalize xs ++ caps.map Operand.tmp = zs at *
  have mem : ∀ {ms : List (Nat × Nat)} {s i : Nat}, idxM ms s = some i → (s, i) ∈ ms := fun {ms s i} hi => by
    induction ms with
    | nil => cases hi
    | cons e r ih =>
      obtain ⟨s', i'⟩ := e
      simp only [idxM] at hi
      cases hb : Nat.beq s' s with
      | true => rw [hb, cond_true] at hi; injection hi with hi; subst hi; have := Nat.eq_of_beq_eq_true hb; subst this; exact List.mem_cons_self ..
      | false => rw [hb, cond_false] at hi; exact List.mem_cons_of_mem _ (ih hi)
  have hlen := ha.length
  refine (hs.calls w (inM ms L) (zs.map a.eval) (by rw [List.length_map, hlen]) ⟨fun b p hb => ?_, fun b p hb => ?_, fun b b' p hb hb' => ?_, fun b hge hf => ?_⟩ (fun i x v hx hv => ?_)).mono fun e w' ⟨v, L', bs', r, he, hRR, hB⟩ => ?_
  · obtain ⟨t, i, q, h3, _, _⟩ := inM_my hb; exact hR.lok.lt b _ h3
  · obtain ⟨t, i, q, _, h3, h4⟩ := inM_my hb; exact ⟨i, q, h4, hms.lt _ _ h3⟩
  · obtain ⟨t, i, q, h3, h4, h5⟩ := inM_my hb
    obtain ⟨t', i', q', h3', h4', h5'⟩ := inM_my hb'
    rw [h5] at h5'; cases h5'
    have e1 := hms.inv _ _ h4
    have e2 := hms.inv _ _ h4'
    rw [e1] at e2; cases e2
    exact hR.lok.inj _ _ _ h3 h3'
  · have := inM_fo.1 hf
    exact hR.lok.new b (Nat.le_trans hR.keep.size hge) this
  · simp only [List.getElem?_map, Option.map_eq_some_iff] at hv
    obtain ⟨y, hy, rfl⟩ := hv
    have := (ha.get i y x hy hx).rep hR
    rwa [Nat.zero_add] at this
  · subst he
    obtain ⟨hnr, hny⟩ := hn bs' r hRR
    have hclo : (a.put (some d) v).tmps.getD u undef = .func (.func f) #[] (caps.map fun s => (a.put (some d) v).tmps.getD s undef).toArray := by
      have hcu := hR.hold u (own_lt hR hu (by simp))
      rw [hu] at hcu
      simp only [Hold] at hcu
      have k1 : ∀ m, m ≠ d → (a.put (some d) v).tmps.getD m undef = a.tmps.getD m undef := fun m hm => getD_set_other (fun e => hm e.symm)
      rw [k1 u (fun e => by subst e; rw [Nat.beq_refl] at hud; cases hud), hcu]
      congr 2
      refine List.map_congr_left fun m hm => (k1 m fun e => ?_).symm
      have := List.all_eq_true.1 hcd m hm
      subst e; rw [Nat.beq_refl] at this; cases this
    have huN : u < N := own_lt hR hu (by simp)
    have hfin : Rel S w0 L0 N (putM ms bs' (σ.put d (.av r))) (a.put (some d) v) w' → _ := fun ⟨L2, hR2⟩ => h bs' r hRR h2 w0 L0 Q _ w' hQ ⟨L2, hR2.reclo u huN hclo⟩
    refine hfin (after_callM hR hd hms hB hnr fun s i hi => ?_)
    have hmem := mem hi
    have hcc := List.all_eq_true.1 hc _ hmem
    simp only at hcc
    split at hcc
    · rename_i x hx
      split at hcc
      · rename_i s' y' hs' hy'
        have := Nat.eq_of_beq_eq_true hcc
        subst this
        obtain ⟨e1, e2, _⟩ := slotAt_ev hs' hy' hR
        exact ⟨e1, by rw [List.getElem?_map, hx, Option.map_some, e2], hny _ hmem⟩
      · cases hcc
    · cases hcc
/-- A call of a closure that turns two of what it caught. -/
theorem J.cloM2 {P : Program} {f t : Nat} {caps : List Nat} {bs bs' : List AV} {r y y' : AV} {xs : List Operand} {ops : Array Oper} {l : List Oper} {K : St → Prop} {d ty : Nat} {ts : Array Nat} {pos : String} {aft : Array Edge} {g : Option (Nat × Bool)} (u s i s' i' : Nat) (hs : FnSpec P f bs bs' r) (ht : get σ t = .clo f caps) (hu : get σ u = .clo f caps) (hud : Nat.beq u d = false) (hcd : caps.all (fun m => !Nat.beq m d) = true) (hP : P = S.P) (hg : live ops g σ = some true)
    (hm : MOk d bs.length [(s, i), (s', i')]) (ha : ArgsM S N σ [(s, i), (s', i')] 0 (xs ++ caps.map Operand.tmp) bs)
    (hc : [(s, i), (s', i')].all (fun e => match (xs ++ caps.map Operand.tmp)[e.2]? with | some x => (match slotAt σ x, FM.get σ e.1 with | some s, .av _ => Nat.beq s e.1 | _, _ => false) | none => false) = true)
    (hr : NoSh r) (hy : bs'[i]? = some y) (hny : NoSh y) (hy' : bs'[i']? = some y') (hny' : NoSh y') (h : J false S N ops l K ((((σ.put d (.av r)).put s' (.av y')).put s (.av y)).put u (.clo f caps))) :
    J false S N ops (⟨some d, .call ⟨.value (.tmp t), xs.toArray, ts⟩, ty, pos, aft, g⟩ :: l) K σ := by
  refine J.cloMu [(s, i), (s', i')] ht hu hud hcd hs.toE hP hg hm ha hc (fun bs2 r2 ⟨h1, h2⟩ => ⟨h2 ▸ hr, fun e he => ?_⟩) (fun bs2 r2 ⟨h1, h2⟩ => by
    subst h1; subst h2
    have e1 : bs2.getD i .dead = y := by rw [List.getD_eq_getElem?_getD, hy]; rfl
    have e2 : bs2.getD i' .dead = y' := by rw [List.getD_eq_getElem?_getD, hy']; rfl
    simp only [putM, e1, e2]
    exact h)
  subst h1
  rcases List.mem_cons.1 he with rfl | he
  · exact ⟨y, hy, hny⟩
  · rw [List.mem_singleton.1 he]; exact ⟨y', hy', hny'⟩
theorem noSh_pt1 {n : Int} : NoSh (.pt true [.int n]) := noSh_ptL rfl
end
end FM
