/- A box that holds a slice of its own: taken out, put in, read. No program in sight. -/
import Derived.Test.YtohgcgedbhlnfaaDl
namespace FM
open Go Go.RowKit
set_option linter.all false
theorem RelL.intoBox {S : Sys} {N : Nat} {σ : St} {w0 : World} {L0 : Nat → Lab} {a : Act} {w : World} {L : Nat → Lab} (hR : RelL S w0 L0 N σ a w L) {s i t0 : Nat} {r : AV} {xs : List AV} (hs : FM.get σ s = .av (.pt true xs)) (ht0 : FM.get σ t0 = .av r) (hr1 : r.cells = [r]) (hst : t0 ≠ s) (hi : i < xs.length)
    (hcell : ∀ b, L b = .my [s] → w.cell? ⟨b, i, none⟩ = some (a.tmps.getD t0 undef)) : RelL S w0 L0 N ((σ.put t0 .none).upd false s (.av (.pt true (xs.set i r)))) a w (remap (φinto s i t0) L) := by
  have hsN := own_lt hR hs (by simp)
  have htN := own_lt hR ht0 (by simp)
  have hks : ∀ b, L b = .my [s] → remap (φinto s i t0) L b = .my [s] := fun b hb => remap_to hb (φinto_keep hst (by simp [strip]))
  refine ⟨hR.defers, hR.size, hR.keep, hR.lok.remap φinto_inj, fun n hn => ?_, fun n hn => ?_, hR.fix⟩
  · simp only [FM.get, kill_eq]
    by_cases hsn : s = n
    · subst hsn
      rw [Nat.beq_refl, cond_true]
      have hh := hR.hold s hn
      rw [hs] at hh
      have ht := hR.hold t0 htN
      rw [ht0] at ht
      simp only [Hold] at hh ht ⊢
      generalize a.tmps.getD s undef = sv at hh
      cases hh with
      | @ptO p cs b arr e u hL hb hsz hcl hr =>
        have hci := hcell b hL
        rw [cell_of_row w b i arr e (0, 0) hb] at hci
        refine .ptO (fun o => if o = i then a.tmps.getD t0 undef else u o) (hks b hL) hb (by rw [List.length_set]; exact hsz) (fun o ho => ?_) (fun o y hy => ?_)
        · split
          · rename_i e; subst e; exact hci
          · rw [List.length_set] at ho; exact hcl o ho
        · rw [List.getElem?_set] at hy
          by_cases ho : i = o
          · subst ho
            rw [if_pos rfl, if_pos hi] at hy
            cases hy
            simp only [if_pos]
            refine Rep.frame (Nat.le_refl _) rfl rfl rfl (fun k h1 _ => ⟨remap_sh h1, rfl⟩) ht _ fun p hp => ?_
            cases hp
            refine ⟨_, rfl, fun k q hk => ⟨remap_to hk ?_, rfl⟩⟩
            unfold φinto
            rw [strip_spec.2 rfl]; rfl
          · rw [if_neg ho] at hy
            simp only [if_neg (Ne.symm ho)]
            refine Rep.frame (Nat.le_refl _) rfl rfl rfl (fun k h1 _ => ⟨remap_sh h1, rfl⟩) (hr o y hy) _ fun p hp => ?_
            cases hp
            refine ⟨_, rfl, fun k q hk => ⟨remap_to hk ?_, rfl⟩⟩
            refine φinto_keep hst ?_
            simp [strip, not_beq ho, Nat.beq_refl]
    · rw [not_beq hsn, cond_false]
      by_cases htn : t0 = n
      · subst htn; rw [Nat.beq_refl, cond_true]; trivial
      · rw [not_beq htn, cond_false]
        cases hd : (FM.get σ n).dep t0 with
        | true => trivial
        | false =>
          rw [cond_false]
          have hh := hR.hold n hn
          have key : ∀ tv : TV, tv.dep s = false → tv.dep t0 = false → Hold L w a.tmps n tv (a.tmps.getD n undef) → Hold (remap (φinto s i t0) L) w a.tmps n tv (a.tmps.getD n undef) := fun tv hds hdt hh =>
            Hold.relab (good := fun m => m ≠ s ∧ m ≠ t0) (Nat.le_refl _) rfl rfl rfl (fun k h1 _ => ⟨remap_sh h1, rfl⟩) (fun k m q h1 h2 => ⟨remap_to h1 (φinto_keep (fun e => h2.2 e.symm) (by simp only [strip, not_beq (fun e => h2.1 e.symm : s ≠ m), cond_false])), rfl⟩)
              (fun _ _ => rfl) ⟨fun e => hsn e.symm, fun e => htn e.symm⟩ (fun m hm => ⟨fun e => (by subst e; rw [hds] at hm; cases hm), fun e => (by subst e; rw [hdt] at hm; cases hm)⟩) hh
          generalize FM.get σ n = tv at hh hd
          cases tv with
          | none => trivial
          | av x => exact key _ rfl rfl hh
          | ref s' => exact hh
          | rref s' q y =>
            simp only [TV.stale]
            cases hb' : Nat.beq s' s with
            | false => exact key _ hb' hd hh
            | true => trivial
          | ptr s' q c y =>
            simp only [TV.stale]
            cases hb' : Nat.beq s' s with
            | false => exact key _ hb' hd hh
            | true =>
              have := Nat.eq_of_beq_eq_true hb'; subst this
              obtain ⟨k, h1, h2, _⟩ := hh; exact ⟨k, hks k h1, h2, fun h => absurd rfl h⟩
          | fpt s' o y =>
            simp only [TV.stale]
            cases hb' : Nat.beq s' s with
            | false => exact key _ hb' hd hh
            | true =>
              have := Nat.eq_of_beq_eq_true hb'; subst this
              obtain ⟨k, h1, h2, _⟩ := hh; exact ⟨k, hks k h1, h2, fun h => absurd rfl h⟩
          | rptr s' q j y =>
            simp only [TV.stale]
            cases hb' : Nat.beq s' s with
            | false => exact key _ hb' hd hh
            | true => trivial
          | dptr x => exact key _ rfl rfl hh
          | bdp s' x =>
            simp only [TV.stale]
            cases hb' : Nat.beq s' s with
            | false => exact key _ hb' hd hh
            | true => trivial
          | bor s' x =>
            simp only [TV.stale]
            cases hb' : Nat.beq s' s with
            | false => exact key _ hb' hd hh
            | true => trivial
          | clo f caps => exact hh
  · simp only [FM.get, kill_eq]
    rw [not_beq (show s ≠ n by omega), cond_false, not_beq (show t0 ≠ n by omega), cond_false, hR.out n hn]; rfl

theorem RelL.takeBox {S : Sys} {N : Nat} {σ : St} {w0 : World} {L0 : Nat → Lab} {a : Act} {w : World} {L : Nat → Lab} (hR : RelL S w0 L0 N σ a w L) {s i d : Nat} {y : AV} {xs : List AV} (hs : FM.get σ s = .av (.pt true xs)) (hd : FM.get σ d = .rref s i y) (hy : y ≠ .dead) (hsd : s ≠ d) (hi : i < xs.length) :
    RelL S w0 L0 N ((σ.upd false s (.av (.pt true (xs.set i .dead)))).put d (.av y)) a w (mvl [s, i] d L) := by
  have hsN := own_lt hR hs (by simp)
  have hdN := own_lt hR hd (by simp)
  have hks : ∀ b, L b = .my [s] → mvl [s, i] d L b = .my [s] := fun b hb => mvl_keep hb hsd (by simp [strip])
  refine ⟨hR.defers, hR.size, hR.keep, hR.lok.mvl _ _, fun n hn => ?_, fun n hn => ?_, hR.fix⟩
  · simp only [FM.get, kill_eq]
    by_cases hnd : d = n
    · subst hnd
      rw [Nat.beq_refl, cond_true]
      have := hR.hold d hdN
      rw [hd] at this
      obtain ⟨b, h1, h2, h3⟩ := this
      refine Rep.frame (Nat.le_refl _) rfl rfl rfl (fun b h1 _ => ⟨mvl_sh h1, rfl⟩) (h3 hy) _ fun p hp => ?_
      cases hp
      exact ⟨[d], rfl, fun b q hb => ⟨mvl_to hb, rfl⟩⟩
    · rw [not_beq hnd, cond_false]
      by_cases hns : s = n
      · subst hns
        rw [Nat.beq_refl, cond_true]
        simp only [TV.dep, cond_false]
        have hh := hR.hold s hn
        rw [hs] at hh
        simp only [Hold] at hh ⊢
        generalize a.tmps.getD s undef = sv at hh
        cases hh with
        | @ptO p cs b arr e u hL hb hsz hcl hr =>
          refine .ptO u (hks b hL) hb (by rw [List.length_set]; exact hsz) (fun o ho => by rw [List.length_set] at ho; exact hcl o ho) (fun o z hz => ?_)
          rw [List.getElem?_set] at hz
          by_cases ho : i = o
          · subst ho
            rw [if_pos rfl, if_pos hi] at hz
            cases hz; exact .dead
          · rw [if_neg ho] at hz
            refine Rep.frame (Nat.le_refl _) rfl rfl rfl (fun k h1 _ => ⟨mvl_sh h1, rfl⟩) (hr o z hz) _ fun p hp => ?_
            cases hp
            refine ⟨_, rfl, fun k q hk => ⟨?_, rfl⟩⟩
            exact mvl_keep (t := s) (q := o :: q) hk hsd (by simp [strip, not_beq ho, Nat.beq_refl])
      · rw [not_beq hns, cond_false]
        have hh := hR.hold n hn
        have key : ∀ tv : TV, tv.dep s = false → tv.dep d = false → Hold L w a.tmps n tv (a.tmps.getD n undef) → Hold (mvl [s, i] d L) w a.tmps n tv (a.tmps.getD n undef) := fun tv hds hdt hh =>
          Hold.relab (good := fun m => m ≠ s ∧ m ≠ d) (Nat.le_refl _) rfl rfl rfl (fun k h1 _ => ⟨mvl_sh h1, rfl⟩) (fun k m q h1 h2 => ⟨mvl_keep h1 h2.2 (by simp only [strip, not_beq (fun e => h2.1 e.symm : s ≠ m), cond_false]), rfl⟩)
            (fun _ _ => rfl) ⟨fun e => hns e.symm, fun e => hnd e.symm⟩ (fun m hm => ⟨fun e => (by subst e; rw [hds] at hm; cases hm), fun e => (by subst e; rw [hdt] at hm; cases hm)⟩) hh
        generalize FM.get σ n = tv at hh
        cases tv with
        | none => trivial
        | av x => exact key _ rfl rfl hh
        | ref s' =>
          simp only [TV.stale, TV.dep]
          cases Nat.beq s' d <;> first | exact hh | trivial
        | rref s' q y =>
          simp only [TV.stale]
          cases hb' : Nat.beq s' s with
          | true => trivial
          | false =>
            simp only [cond_false, TV.dep]
            cases hd' : Nat.beq s' d with
            | true => trivial
            | false => exact key _ hb' hd' hh
        | ptr s' q c y =>
          simp only [TV.stale]
          cases hb' : Nat.beq s' s with
          | true =>
            have := Nat.eq_of_beq_eq_true hb'; subst this
            simp only [cond_true, TV.dep, not_beq hsd, cond_false]
            obtain ⟨k, h1, h2, _⟩ := hh; exact ⟨k, hks k h1, h2, fun h => absurd rfl h⟩
          | false =>
            simp only [cond_false, TV.dep]
            cases hd' : Nat.beq s' d with
            | true => trivial
            | false => exact key _ hb' hd' hh
        | fpt s' o y =>
          simp only [TV.stale]
          cases hb' : Nat.beq s' s with
          | true =>
            have := Nat.eq_of_beq_eq_true hb'; subst this
            simp only [cond_true, TV.dep, not_beq hsd, cond_false]
            obtain ⟨k, h1, h2, _⟩ := hh; exact ⟨k, hks k h1, h2, fun h => absurd rfl h⟩
          | false =>
            simp only [cond_false, TV.dep]
            cases hd' : Nat.beq s' d with
            | true => trivial
            | false => exact key _ hb' hd' hh
        | rptr s' q j y =>
          simp only [TV.stale]
          cases hb' : Nat.beq s' s with
          | true => trivial
          | false =>
            simp only [cond_false, TV.dep]
            cases hd' : Nat.beq s' d with
            | true => trivial
            | false => exact key _ hb' hd' hh
        | dptr x => exact key _ rfl rfl hh
        | bdp s' x =>
          simp only [TV.stale]
          cases hb' : Nat.beq s' s with
          | true => trivial
          | false =>
            simp only [cond_false, TV.dep]
            cases hd' : Nat.beq s' d with
            | true => trivial
            | false => exact key _ hb' hd' hh
        | bor s' x =>
          simp only [TV.stale]
          cases hb' : Nat.beq s' s with
          | true => trivial
          | false =>
            simp only [cond_false, TV.dep]
            cases hd' : Nat.beq s' d with
            | true => trivial
            | false => exact key _ hb' hd' hh
        | clo f caps =>
          simp only [TV.stale, TV.dep]
          cases caps.any fun s => Nat.beq s d <;> first | exact hh | trivial
  · simp only [FM.get, kill_eq]
    rw [not_beq (show d ≠ n by omega), cond_false, not_beq (show s ≠ n by omega), cond_false, hR.out n hn]; rfl
/-- A slice that a box holds is borrowed. -/
theorem s_ldBox {S : Sys} {σ : St} {d ty : Nat} {pos : String} {aft : Array Edge} {g : Option (Nat × Bool)} {t s : Nat} {ti : TI} {y : AV} (hs : FM.get σ s = .av (.pt true [y])) (hT : S.T t = some ti) (hf : y.fits ti = true) (hy : y ≠ .dead) (h1 : y.cells = [y]) (hsd : Nat.beq s d = false) :
    Step S ⟨some d, .load t (.tmp s), ty, pos, aft, g⟩ σ (σ.put d (.rref s 0 y)) := by
  intro w0 L0 N a w hN ⟨L, hR⟩
  have hh := hR.hold s (own_lt hR hs (by simp))
  rw [hs] at hh
  simp only [Hold] at hh
  obtain ⟨b, hL, hpv, hlt, hcs⟩ := pt_at hh
  obtain ⟨v, h2, h3, h4⟩ := load_core (S.ok t ti hT) hf (off := 0) hlt (fun cs e => by
    subst e
    exfalso
    have h2 : SizeOf.sizeOf cs = SizeOf.sizeOf [AV.agg cs] := congrArg SizeOf.sizeOf h1
    simp at h2
    omega) (π := fun j => some ([s] ++ [j])) (fun j z hz => by rw [h1] at hz; rw [Nat.zero_add]; exact hcs j z hz)
  have hev : a.eval (.tmp s) = .pointer (some ⟨b, 0, none⟩) := hpv
  refine ⟨v, fun w' e => by simp only [execOp, hev, Instr.loadAt, Instr.sureAddr]; simp [h2 w' e], Rel.putPlain (n := d) hR (hN d rfl) rfl hsd ⟨b, hL, h4 h1, fun _ => ?_⟩⟩
  simpa using h3
/-- A slice of a slot's own is put into a box. -/
theorem e_stB {S : Sys} {σ : St} {ty : Nat} {pos : String} {aft : Array Edge} {g : Option (Nat × Bool)} {t s t0 : Nat} {ti : TI} {x0 r : AV} (hs : FM.get σ s = .av (.pt true [x0])) (ht0 : FM.get σ t0 = .av r) (hok : r.cellOk = true) (hst : Nat.beq t0 s = false) (hT : S.T t = some ti) (hc2 : Nat.beq ti.size 1 = true) :
    EStep S ⟨none, .store t (.tmp s) (.tmp t0), ty, pos, aft, g⟩ σ (((σ.upd false s (.av (.pt true [.dead]))).put t0 .none).upd false s (.av (.pt true [r]))) := by
  intro w0 L0 N a w _ ⟨L, hR⟩
  have hc3 := Nat.eq_of_beq_eq_true hc2
  have hsN := own_lt hR hs (by simp)
  have htN := own_lt hR ht0 (by simp)
  have hh := hR.hold s hsN
  have ht := hR.hold t0 htN
  rw [hs] at hh
  rw [ht0] at ht
  simp only [Hold] at hh ht
  obtain ⟨c1, c2, c3⟩ := cellOk_spec ht hok
  obtain ⟨b, hL, hp, _, _⟩ := pt_at hh
  have v1 : (a.tmps.getD t0 undef).cells.size = 1 := by rw [c1]; rfl
  have v2 : ∀ u ∈ (a.tmps.getD t0 undef).cells.toList, u.oneCell' = true := fun u hu => by rw [c1] at hu; rw [List.mem_singleton.1 hu]; exact c2
  have core := fun (z : AV) (hz : Rep L w none z (a.tmps.getD t0 undef)) => pt_core hT (off := 0) (zs := [z]) (cs' := [z]) (zv := a.tmps.getD t0 undef) hL hR.lok.inj hh (by simp) (by rw [hc3]; rfl) v1 v2 (fun j y hy => by
    rw [c1]
    cases j with
    | zero => simp only [List.getElem?_cons_zero, Option.some.injEq] at hy; subst hy; exact ⟨_, rfl, hz⟩
    | succ j => simp at hy) (by simp) (fun j y hy => by
    cases j with
    | zero => exact .inl ⟨Nat.le_refl _, by simp, hy⟩
    | succ j => simp at hy)
  obtain ⟨W, hrun, hsz, ho, htp, hu, hother, hrep⟩ := core .dead .dead
  obtain ⟨W2, hrun2, _, _, _, _, _, hrep2⟩ := core (.val (a.tmps.getD t0 undef)) .val
  rw [hrun] at hrun2
  cases hrun2
  have hW := hR.write (b := b) (q0 := []) hsN hL hsz ho htp hu hother hrep false (fun h => by cases h)
  have hst' : t0 ≠ s := of_not_beq hst
  have hev : a.eval (.tmp t0) = a.tmps.getD t0 undef := rfl
  have hev2 : a.eval (.tmp s) = .pointer (some ⟨b, 0, none⟩) := hp
  refine ⟨undef, W, .inr ⟨by simp only [execOp, hev2, Sem.run_bind, hev, hrun]; rfl, rfl⟩, _, hW.intoBox (s := s) (i := 0) (t0 := t0) (r := r) (xs := [.dead]) ?_ ?_ c3 hst' (by simp) fun b' hb' => ?_⟩
  · simp only [FM.get, Nat.beq_refl, cond_true]
  · simp only [FM.get, not_beq hst'.symm, cond_false, ht0]; rfl
  · have := hR.lok.inj _ _ _ hb' hL
    subst this
    obtain ⟨b2, hL2, hp2, _, hc⟩ := pt_at hrep2
    have e2 := hR.lok.inj _ _ _ hL2 hL
    subst e2
    obtain ⟨u, hu1, hu2⟩ := hc 0 _ rfl
    cases hu2
    exact hu1
end FM
