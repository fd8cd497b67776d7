/- 'plumelaw.HousePlays' returns true. -/
import Derived.Test.YtkkcnppgcnmikaaGreatDoorZmm
import Derived.Test.YtkkcnppgcnmikaaGreatDoorHfm
import Derived.Test.YtkkcnppgcnmikaaGreatDoorSqm
namespace Go.Proofs.YtkkcnppgcnmikaaGreatDoor
open Go FM Go.Proofs
set_option maxRecDepth 10000
set_option maxHeartbeats 6400000
set_option linter.all false
/-- What both do with a deed is the same. -/
structure Both (s : Hs) (d : De) (s' : Hs) (t m e : Int) : Prop where
  ok : HsOk s'
  f : FnSpec Sy.P 7 [hsV s.A s.O s.k s.n, deA d] [hsV s'.A s'.O s'.k s'.n, deA d] (.tup [tdA t m, .int e])
  g : FnSpec Sy.P 8 [hsR s.A s.O s.k s.n, deA d] [hsR s.A s.O s.k s.n, deA d] (.tup [hsR s'.A s'.O s'.k s'.n, tdA t m, .int e])
theorem onOk {s : Hs} (h : HsOk s) (n0 : Int) (w : Str) : ∃ s' : Hs, HsOk s' ∧ s'.A = onA s.A s.k w n0 ∧ s'.O = s.O ∧ s'.k = onD s.A s.k w n0 ∧ s'.n = s.n := by
  by_cases c : onE s.A s.k w n0 = 0
  · have c0 := c
    unfold onE at c0
    by_cases c1 : opE s.A w n0 = 0
    · rw [if_neg (not_not_intro c1)] at c0
      obtain ⟨_, hn, hm, hl⟩ := opE_ok c1
      have hr : (Rc.o w n0).ok := ⟨hn, hm.1, hm.2⟩
      have ek : dk ((s.R ++ [Rc.o w n0]).map Rc.str) = s.k ++ frm (recO w n0) := by rw [List.map_append, dk_append]; exact congrArg _ (dk_one _)
      have hA := rcS_L (A := s.A) (r := .o w n0) h.a hr
      have hAe : rcS s.A (.o w n0) = opM s.A w n0 := by show ifA (opE s.A w n0) _ = _; rw [c1, ifA0]
      rw [hAe] at hA
      have hkl : (s.k ++ frm (recO w n0)).length ≤ 4000 := by
        unfold appE at c0
        rw [List.length_append, frm_length]
        split at c0
        · cases c0
        · split at c0
          · cases c0
          · omega
      have hn := h.n
      refine ⟨⟨opM s.A w n0, s.O, s.R ++ [.o w n0], s.n⟩, ⟨hA, by show (opM s.A w n0).length ≤ 6; rw [opM_len]; omega, h.o, h.ol, fun x hx => ?_, ?_, ?_⟩, ?_, rfl, ?_, rfl⟩
      · rcases List.mem_append.1 hx with hx | hx
        · exact h.r x hx
        · rw [List.mem_singleton] at hx; subst hx; exact hr
      · show (dk _).length ≤ 4000; rw [ek]; exact hkl
      · show 0 ≤ s.n ∧ s.n ≤ (dk _).length; rw [ek, List.length_append]; exact ⟨hn.1, by have := hn.2; unfold Hs.k at this ⊢; omega⟩
      · show opM s.A w n0 = onA s.A s.k w n0; unfold onA; rw [if_pos c]
      · show dk _ = onD s.A s.k w n0; unfold onD; rw [if_pos c, ek]
    · rw [if_pos c1] at c0; exact absurd c0 c1
  · exact ⟨s, h, by unfold onA; rw [if_neg c], rfl, by unfold onD; rw [if_neg c], rfl⟩
theorem adOk {O : List Dl} {dl : Dl} (h : DlL O) (hl : O.length ≤ 20) (h1 : dl.1.length ≤ 9223372036854775807) (h2 : dl.2.1.length ≤ 9223372036854775807) : DlL (if adE O dl = 0 then adM O dl else O) ∧ (if adE O dl = 0 then adM O dl else O).length ≤ 20 := by
  by_cases c : adE O dl = 0
  · rw [if_pos c]
    unfold adE at c
    by_cases c1 : ofE O ≠ 0
    · rw [if_pos c1] at c; exact absurd c c1
    rw [if_neg c1] at c
    by_cases c2 : dlE dl ≠ 0
    · rw [if_pos c2] at c; exact absurd c c2
    rw [if_neg c2] at c
    unfold adM
    by_cases c3 : 0 ≤ fD O dl.1 dl.2.2.1
    · rw [if_pos c3]
      refine ⟨⟨by rw [List.length_set]; exact h.len, fun d hd => ?_, fun d hd => ?_⟩, by rw [List.length_set]; exact hl⟩
      · rcases List.mem_or_eq_of_mem_set hd with hd | rfl
        · exact h.s1 d hd
        · exact h1
      · rcases List.mem_or_eq_of_mem_set hd with hd | rfl
        · exact h.s2 d hd
        · exact h2
    · rw [if_neg c3] at c ⊢
      by_cases c4 : 20 ≤ O.length
      · rw [if_pos c4] at c; cases c
      refine ⟨⟨by rw [List.length_append]; simp; omega, fun d hd => ?_, fun d hd => ?_⟩, by rw [List.length_append]; simp; omega⟩
      · rcases List.mem_append.1 hd with hd | hd
        · exact h.s1 d hd
        · rw [List.mem_singleton] at hd; subst hd; exact h1
      · rcases List.mem_append.1 hd with hd | hd
        · exact h.s2 d hd
        · rw [List.mem_singleton] at hd; subst hd; exact h2
  · rw [if_neg c]; exact ⟨h, hl⟩
theorem drOk {O : List Dl} {w : Str} {n0 : Int} (h : DlL O) (hl : O.length ≤ 20) : DlL (if drE O w n0 = 0 then drM O w n0 else O) ∧ (if drE O w n0 = 0 then drM O w n0 else O).length ≤ 20 := by
  have hm : ∀ d ∈ drM O w n0, d ∈ O := fun d hd => by
    unfold drM at hd
    rcases List.mem_append.1 hd with hd | hd
    · exact List.mem_of_mem_take hd
    · exact List.mem_of_mem_drop hd
  by_cases c : drE O w n0 = 0
  · rw [if_pos c]
    have hll : (drM O w n0).length ≤ O.length := by unfold drM; rw [List.length_append, List.length_take, List.length_drop]; omega
    exact ⟨⟨by have := h.len; omega, fun d hd => h.s1 d (hm d hd), fun d hd => h.s2 d (hm d hd)⟩, by omega⟩
  · rw [if_neg c]; exact ⟨h, hl⟩
theorem buOk {s : Hs} (h : HsOk s) (n0 : Int) (w : Str) : ∃ s' : Hs, HsOk s' ∧ s'.A = buA s.O s.A s.k w n0 ∧ s'.O = buO s.O s.A s.k w n0 ∧ s'.k = buD s.O s.A s.k w n0 ∧ s'.n = s.n := by
  by_cases c : buE s.O s.A s.k w n0 = 0
  · obtain ⟨c1, c2, c3⟩ := buE_ok c
    obtain ⟨g1, g2, g3, g4⟩ := bdE_ok c2
    have hB := bA_ok (w := w) c2 h.a
    have hw := w_name c1 g2
    have hr : ∀ x ∈ (bT s.O s.A w n0).map fun x => Rc.d (at0 s.O x) w, x.ok := fun x hx => by
      obtain ⟨y, hy, rfl⟩ := List.mem_map.1 hx
      exact ⟨at_ok g1 (bT_mem y hy), hw⟩
    have ek : dk ((s.R ++ (bT s.O s.A w n0).map fun x => Rc.d (at0 s.O x) w).map Rc.str) = s.k ++ dk (rk s.O w (bT s.O s.A w n0)) := by
      rw [List.map_append, dk_append, List.map_map]; rfl
    have hm : ∀ d ∈ clM s.O (bA s.O s.A w n0), d ∈ s.O := fun d hd => (List.mem_filter.1 hd).1
    have hll : (clM s.O (bA s.O s.A w n0)).length ≤ s.O.length := List.length_filter_le ..
    have hn := h.n
    have hol := h.ol
    refine ⟨⟨bA s.O s.A w n0, clM s.O (bA s.O s.A w n0), s.R ++ (bT s.O s.A w n0).map fun x => Rc.d (at0 s.O x) w, s.n⟩, ⟨hB.2, (acE_ok hB.1).len, ⟨by have := h.o.len; show (clM s.O (bA s.O s.A w n0)).length ≤ _; omega, fun d hd => h.o.s1 d (hm d hd), fun d hd => h.o.s2 d (hm d hd)⟩, ?_, fun x hx => ?_, ?_, ?_⟩, ?_, ?_, ?_, rfl⟩
    · show (clM s.O (bA s.O s.A w n0)).length ≤ 20; omega
    · rcases List.mem_append.1 hx with hx | hx
      · exact h.r x hx
      · exact hr x hx
    · show (dk _).length ≤ 4000; rw [ek, List.length_append]; exact c3
    · show 0 ≤ s.n ∧ s.n ≤ (dk _).length; rw [ek, List.length_append]; exact ⟨hn.1, by have := hn.2; unfold Hs.k at this ⊢; omega⟩
    · show _ = buA s.O s.A s.k w n0; unfold buA; rw [if_pos c]
    · show _ = buO s.O s.A s.k w n0; unfold buO; rw [if_pos c]
    · show dk _ = buD s.O s.A s.k w n0; unfold buD; rw [if_pos c, ek]
  · exact ⟨s, h, by unfold buA; rw [if_neg c], by unfold buO; rw [if_neg c], by unfold buD; rw [if_neg c], rfl⟩
theorem do_both (s : Hs) (h : HsOk s) (d : De) (hw : d.2.2.1.length ≤ 9223372036854775807) (h1 : d.2.2.2.1.1.length ≤ 9223372036854775807) (h2 : d.2.2.2.1.2.1.length ≤ 9223372036854775807) : ∃ s' t m e, Both s d s' t m e := by
  obtain ⟨kd, n0, w, dl, ⟨⟩⟩ := d
  dsimp only at hw h1 h2
  by_cases k1 : kd = 1
  · subst k1
    obtain ⟨s', hs', e1, e2, e3, e4⟩ := onOk h n0 w
    refine ⟨s', 0, 0, onE s.A s.k w n0, hs', ?_, ?_⟩
    · rw [e1, e2, e3, e4]; exact do1 s.A s.O s.k s.n n0 w dl h.a h.k hw
    · rw [e1, e2, e3, e4]; exact doOf1 s.A s.O s.k s.n n0 w dl h.a h.k hw
  by_cases k2 : kd = 2
  · subst k2
    have hO := adOk h.o h.ol h1 h2
    exact ⟨⟨s.A, if adE s.O dl = 0 then adM s.O dl else s.O, s.R, s.n⟩, 0, 0, adE s.O dl, ⟨h.a, h.al, hO.1, hO.2, h.r, h.k, h.n⟩, do2 s.A s.O s.k s.n n0 w dl h.o h1 h2, doOf2 s.A s.O s.k s.n n0 w dl h.o h1 h2⟩
  by_cases k3 : kd = 3
  · subst k3
    obtain ⟨s', hs', e1, e2, e3, e4⟩ := buOk h n0 w
    refine ⟨s', buN s.O s.A s.k w n0, buM s.O s.A s.k w n0, buE s.O s.A s.k w n0, hs', ?_, ?_⟩
    · rw [e1, e2, e3, e4]; exact do3 s.A s.O s.k s.n n0 w dl h.a h.o h.k h.al
    · rw [e1, e2, e3, e4]; exact doOf3 s.A s.O s.k s.n n0 w dl h.a h.o h.k h.al
  by_cases k4 : kd = 4
  · subst k4
    exact ⟨⟨s.A, s.O, s.R, s.k.length⟩, 0, 0, 0, ⟨h.a, h.al, h.o, h.ol, h.r, h.k, ⟨Int.natCast_nonneg _, Int.le_refl _⟩⟩, do4 s.A s.O s.k s.n n0 w dl, doOf4 s.A s.O s.k s.n n0 w dl⟩
  by_cases k5 : kd = 5
  · subst k5
    by_cases c : crE s.k s.n n0 = 0
    · obtain ⟨R', r1, r2, r3, r4, r5⟩ := crash_at h c
      have hR := rcs_AL r1
      have a1 := do5 s.A s.O s.k s.n n0 w dl R' h.k h.n fun _ => ⟨r1, r2, r5, r4⟩
      have a2 := doOf5 s.A s.O s.k s.n n0 w dl R' h.k h.n fun _ => ⟨r1, r2, r5, r4⟩
      rw [if_pos c, r2, r3] at a1 a2
      exact ⟨⟨rcs R', [], R', ((dk (R'.map Rc.str)).length : Nat)⟩, 0, 0, _, ⟨hR.1, hR.2, ⟨by simp, fun d hd => (by cases hd), fun d hd => (by cases hd)⟩, by simp, r1, r4, ⟨Int.natCast_nonneg _, Int.le_refl _⟩⟩, a1, a2⟩
    · have a1 := do5 s.A s.O s.k s.n n0 w dl [] h.k h.n fun e => absurd e c
      have a2 := doOf5 s.A s.O s.k s.n n0 w dl [] h.k h.n fun e => absurd e c
      rw [if_neg c] at a1 a2
      exact ⟨s, 0, 0, _, h, a1, a2⟩
  by_cases k6 : kd = 6
  · subst k6
    have a1 := do6 s.A s.O s.k s.n n0 w dl h.al
    have a2 := doOf6 s.A s.O s.k s.n n0 w dl h.a
    by_cases c : fA s.A w < 0
    · rw [if_pos c] at a1 a2
      exact ⟨s, 0, 0, _, h, a1, a2⟩
    · rw [if_neg c] at a1 a2
      exact ⟨s, _, _, _, h, a1, a2⟩
  by_cases k7 : kd = 7
  · subst k7
    have hO := drOk (w := w) (n0 := n0) h.o h.ol
    exact ⟨⟨s.A, if drE s.O w n0 = 0 then drM s.O w n0 else s.O, s.R, s.n⟩, 0, 0, drE s.O w n0, ⟨h.a, h.al, hO.1, hO.2, h.r, h.k, h.n⟩, do7 s.A s.O s.k s.n n0 w dl h.o, doOf7 s.A s.O s.k s.n n0 w dl h.o⟩
  · have hk : kd < 1 ∨ 7 < kd := by omega
    exact ⟨s, 0, 0, 1, h, do0 s.A s.O s.k s.n n0 w dl kd hk, doOf0 s.A s.O s.k s.n n0 w dl kd hk⟩
end Go.Proofs.YtkkcnppgcnmikaaGreatDoor
namespace FM
open Go Go.RowKit
section
variable {S : Sys} {σ : St} {d ty : Nat} {pos : String} {aft : Array Edge} {g : Option (Nat × Bool)}
/-- T{}: the zero of a struct, whatever its fields. -/
theorem s_bld0 {t sz by_ : Nat} {fs : List (Nat × Nat)} {zz : List AV} {ps : Array (Nat × Operand)} (hps : ps = #[]) (hT : S.T t = some ⟨.struct fs, sz, by_, zz⟩) (hf : (fs.all fun p => (S.T p.2).isSome) = true) : Step S ⟨some d, .build t ps, ty, pos, aft, g⟩ σ (σ.put d (.av (.agg zz))) := by
  subst hps
  refine step_val rfl fun w0 L0 N a w L hR => ?_
  obtain ⟨f, zv, hf1, hf2, hf3, hf4, hf5, hf6, hf7⟩ := (S.ok t _ hT).info
  obtain ⟨dd, hd, fields, hde, hfl⟩ := (S.ok t _ hT).desc
  subst hde
  simp only at hf2 hf3 hf5 hf6 hf7
  refine ⟨.agg zv.cells, fun w' _ => ?_, ?_⟩
  · have hmr := mapM_run (P := S.P) (w := w') (fun f : Field => (do pure (f.offset, ← Go.sizeOf f.type) : Sem (Nat × Nat))) fields.toList (fields.toList.map fun f => (f.offset, ((S.P.info? f.type).map (·.size)).getD 0)) (by simp) (fun k x v hx hv => by
      rw [List.getElem?_map, hx] at hv
      simp only [Option.map_some, Option.some.injEq] at hv
      subst hv
      have hm : (x.offset, x.type) ∈ fs := by rw [← hfl]; exact List.mem_map.2 ⟨x, List.mem_of_getElem? hx, rfl⟩
      have h1 := List.all_eq_true.1 hf _ hm
      obtain ⟨ti, h2⟩ := Option.isSome_iff_exists.1 h1
      obtain ⟨fe, h5, h6⟩ := (S.ok _ ti h2).size
      simp [Go.sizeOf, typeInfo, h5])
    have hplaces : ∃ pl, (fields.mapM fun f => do pure (f.offset, ← Go.sizeOf f.type) : Sem (Array (Nat × Nat))).run S.P w' = .ok pl w' := by
      rw [Array.mapM_eq_mapM_toList]
      simp only [map_eq_pure_bind, Sem.run_bind, hmr, Result.andThen_ok, Sem.run_pure]
      exact ⟨_, rfl⟩
    obtain ⟨pl, hpl⟩ := hplaces
    simp only [execOp, Sem.run_bind, Instr.build, zeroValue, typeInfo, run_program, hf1, hf4, Result.andThen_ok, Sem.run_pure, run_underlying hd]
    rw [hpl]
    simp [Instr.fill]
  · have hl : zv.cells.toList.length = zz.length := by rw [hf5, List.length_map]
    have : (Value.agg zv.cells) = .agg zv.cells.toList.toArray := by simp
    rw [this]
    refine .agg hl fun i x v hx hv => ?_
    rw [hf5, List.getElem?_map, hx] at hv
    simp only [Option.map_some, Option.some.injEq] at hv
    subst hv
    exact toV_rep (List.all_eq_true.1 hf6 x (List.mem_of_getElem? hx))
/-- .. found unequal. -/
theorem s_neS2 {t t2 e : Nat} {k : IntKind} {f1 f2 : Field} {x y : Operand} {a b c d' : Int} (ht : S.P.underlying t = some (.struct #[f1, f2])) (h1 : f1.type = e) (h2 : f2.type = e) (o1 : f1.offset = 0) (o2 : f2.offset = 1) (n1 : f1.name ≠ "_") (n2 : f2.name ≠ "_") (hs : S.P.stoodInHeld t = false)
    (he : S.P.underlying e = some (.int k)) (hg : S.P.eqGuardType S.P.depth t = false)
    (hx : ov σ x = .av (.agg [.int a, .int b])) (hy : ov σ y = .av (.agg [.int c, .int d'])) : Step S ⟨some d, .binOp .neq t x y t2, ty, pos, aft, g⟩ σ (σ.put d (.av (.bool (decide (¬ (a = c ∧ b = d')))))) :=
  step_val rfl fun w0 L0 N A w L hR => ⟨.bool (decide (¬ (a = c ∧ b = d'))), fun w' _ => by
    have hx' := rep_agg2 (ev_av hR hx).choose_spec
    have hy' := rep_agg2 (ev_av hR hy).choose_spec
    have e1 := run_eqS2 ht h1 h2 o1 o2 n1 n2 hs he a b c d' w'
    have e2 : (binOp .neq t (.agg #[.int .i64 a, .int .i64 b]) (.agg #[.int .i64 c, .int .i64 d'])).run S.P w' = .ok (.bool (decide (¬ (a = c ∧ b = d')))) w' := by
      show (do pure (.bool (!(← Op.equal t _ _))) : Sem Value).run S.P w' = _
      rw [Sem.run_bind, e1, decide_not]; rfl
    simp only [execOp, hx', hy', Sem.run_bind]
    simp [run_guardA2 hg, e2], .bool⟩
theorem s_neS2R {t t2 e : Nat} {k : IntKind} {f1 f2 : Field} {x y : Operand} {a b : Int} (ht : S.P.underlying t = some (.struct #[f1, f2])) (h1 : f1.type = e) (h2 : f2.type = e) (o1 : f1.offset = 0) (o2 : f2.offset = 1) (n1 : f1.name ≠ "_") (n2 : f2.name ≠ "_") (hs : S.P.stoodInHeld t = false)
    (he : S.P.underlying e = some (.int k)) (hg : S.P.eqGuardType S.P.depth t = false)
    (hx : ov σ x = .av (.agg [.int a, .int b])) (hy : ov σ y = .av (.agg [.int a, .int b])) : Step S ⟨some d, .binOp .neq t x y t2, ty, pos, aft, g⟩ σ (σ.put d (.av (.bool false))) := by
  have h := s_neS2 (d := d) (ty := ty) (pos := pos) (aft := aft) (g := g) (t2 := t2) ht h1 h2 o1 o2 n1 n2 hs he hg hx hy
  rwa [show decide (¬ (a = a ∧ b = b)) = false by simp] at h
theorem s_neqR {t t2 : Nat} {x y : Operand} {a : Int} (hx : ov σ x = .av (.int a)) (hy : ov σ y = .av (.int a)) : Step S ⟨some d, .binOp .neq t x y t2, ty, pos, aft, g⟩ σ (σ.put d (.av (.bool false))) := by
  have h := s_neq (S := S) (d := d) (ty := ty) (pos := pos) (aft := aft) (g := g) (t := t) (t2 := t2) hx hy
  rwa [show decide (a ≠ a) = false by simp] at h
/-- A variable, its cells read as something more common. -/
theorem rep_ptLe {L : Nat → Lab} {w : World} {π : Option (List Nat)} {v : Value} {cs cs' : List AV} (hl : cs.length = cs'.length) (hle : ∀ (i : Nat) x y, cs[i]? = some x → cs'[i]? = some y → AV.le x y) (h : Rep L w π (.pt true cs) v) : Rep L w π (.pt true cs') v := by
  cases h with
  | ptO u hL hb hsz hcell hr =>
    refine .ptO u hL hb (by rw [hsz, hl]) (fun o ho => hcell o (by omega)) fun o y hy => ?_
    have ho := (List.getElem?_eq_some_iff.1 hy).1
    have hx : cs[o]? = some cs[o] := List.getElem?_eq_getElem (by omega)
    exact Rep.le (hle o _ y hx hy) (hr o _ hx)
theorem CW.ptLe {N : Nat} {c : Code} {Q : Exit → St → Prop} (s : Nat) {cs cs' : List AV} (hs : FM.get σ s = .av (.pt true cs)) (hl : cs.length = cs'.length) (hle : ∀ (i : Nat) x y, cs[i]? = some x → cs'[i]? = some y → AV.le x y) (h : CW S N c Q (σ.upd false s (.av (.pt true cs')))) : CW S N c Q σ := by
  unfold CW at *
  refine fun w0 L0 Q' a w hQ ⟨L, hR⟩ => h w0 L0 Q' a w hQ ⟨L, hR.defers, hR.size, hR.keep, hR.lok, fun n hn => ?_, fun n hn => ?_, hR.fix, hR.glob⟩
  · simp only [FM.get]
    by_cases hsn : s = n
    · subst hsn
      rw [Nat.beq_refl, cond_true]
      have := hR.hold s hn
      rw [hs] at this
      exact rep_ptLe hl hle this
    · rw [not_beq hsn, cond_false]
      have hh := hR.hold n hn
      generalize FM.get σ n = tv at hh
      cases tv with
      | rref s' q y => simp only [TV.stale]; cases Nat.beq s' s <;> first | exact hh | trivial
      | ptr s' q c y => simp only [TV.stale]; cases Nat.beq s' s <;> first | exact hh | (obtain ⟨k, h1, h2, _⟩ := hh; exact ⟨k, h1, h2, fun h => absurd rfl h⟩)
      | fpt s' q y => simp only [TV.stale]; cases Nat.beq s' s <;> first | exact hh | (obtain ⟨k, h1, h2, _⟩ := hh; exact ⟨k, h1, h2, fun h => absurd rfl h⟩)
      | rptr s' q j y => simp only [TV.stale]; cases Nat.beq s' s <;> first | exact hh | trivial
      | bdp s' x => simp only [TV.stale]; cases Nat.beq s' s <;> first | exact hh | trivial
      | bor s' x => simp only [TV.stale]; cases Nat.beq s' s <;> first | exact hh | trivial
      | _ => exact hh
  · simp only [FM.get]
    have := own_lt hR hs (by simp)
    rw [not_beq (show s ≠ n by omega), cond_false, hR.out n hn]; rfl
end
end FM
namespace Go.Proofs.YtkkcnppgcnmikaaGreatDoor
open Go FM Go.Proofs
set_option maxRecDepth 10000
set_option maxHeartbeats 6400000
set_option linter.all false
theorem stoodTold : Tryz.prog.stoodInHeld 36 = false := by kernel_rfl
theorem guardTold : Tryz.prog.eqGuardType Tryz.prog.depth 36 = false := by kernel_rfl
theorem house0 : ∀ (i : Nat) (x y : AV), [AV.nil, .nil, .str [], .int 0][i]? = some x → [AV.sl false 3 [], .sl false 6 [], .str [], .int 0][i]? = some y → AV.le x y := fun i x y hx hy => by
  match i with
  | 0 => cases hx; cases hy; exact .nil
  | 1 => cases hx; cases hy; exact .nil
  | 2 => cases hx; cases hy; exact .refl _
  | 3 => cases hx; cases hy; exact .refl _
  | i + 4 => simp at hx
abbrev des (l : List De) : AV := .sl false 9 (l.map deA)
theorem hs0 : HsOk ⟨[], [], [], 0⟩ := ⟨⟨by simp, fun a ha => (by cases ha)⟩, by simp, ⟨by simp, fun d hd => (by cases hd), fun d hd => (by cases hd)⟩, by simp, fun x hx => (by cases hx), by simp [Hs.k, dk], by simp [Hs.k, dk]⟩
theorem housePlays_spec (l : List De) (hl : l.length ≤ 9223372036854775807) (hg : ∀ d ∈ l, d.2.2.1.length ≤ 9223372036854775807 ∧ d.2.2.2.1.1.length ≤ 9223372036854775807 ∧ d.2.2.2.1.2.1.length ≤ 9223372036854775807) : FnSpec Sy.P 3 [des l] [des l] (.bool true) := by
  have hN := new_spec
  refine FnSpec.enter (S := Sy) 0 Tryz.func3 rfl rfl rfl Tryz.ntmps3 rfl rfl rfl rfl fun v0 => ?_
  (repeat' (first | ((with_reducible apply J.step); rfl; ((with_reducible apply s_fadM) <;> rfl)) | ((with_reducible apply J.step); rfl; ((with_reducible apply s_fadFF) <;> rfl)) | ((with_reducible apply J.step); rfl; ((with_reducible apply s_bld0) <;> rfl)) | ((with_reducible apply J.step); rfl; (exact s_ptNil Tryz.underlying23 rfl rfl rfl)) | refine w9x ?_ | refine w9p (hN) ?_ | (refine w9c ?_ ?_ <;> intro _ <;> try exact w9o) | (refine w9d ?_ ?_ <;> intro _ <;> try exact w9s) | (refine w9q ?_; intro bnil hbnil)))
  refine CW.ptLe 4 (cs' := [.sl false 3 [], .sl false 6 [], .str [], .int 0]) rfl rfl house0 ?_
  refine CW.loop (fun z : Nat × Hs => [(3, .av (hsV z.2.A z.2.O z.2.k z.2.n)), (4, .av (.pt true (hsR z.2.A z.2.O z.2.k z.2.n).cells)), (18, .av (des l)), (19, .av (.int (l.length))), (20, .av (.int (z.1)))]) (fun z => z.1 ≤ l.length ∧ HsOk z.2) (fun z => l.length - z.1) ((0, ⟨[], [], [], 0⟩)) ?_ (by exact w9a) ?_
  · exact ⟨Nat.zero_le _, hs0⟩
  rintro ⟨k, s⟩ ⟨hk, hs⟩
  dsimp only at hk hs ⊢
  by_cases hlt : k < l.length
  · have hx : l[k]? = some l[k] := List.getElem?_eq_getElem hlt
    obtain ⟨g1, g2, g3⟩ := hg _ (List.getElem_mem hlt)
    generalize l[k] = d at *
    obtain ⟨s', t, m, e, hs', hF, hG⟩ := do_both s hs d g1 g2 g3
    have al := hs'.al
    have ol := hs'.ol
    have kl := hs'.k
    have hA := accounts_spec s'.A s'.O s'.k s'.n (by omega)
    have hO := offers_spec s'.A s'.O s'.k s'.n (by omega)
    have hZ := size_spec s'.A s'.O s'.k s'.n
    have hE1 := eqAcs_spec s'.A s'.A (by omega)
    have hE2 := eqDls_spec s'.O s'.O (by omega)
    rw [decide_eq_true rfl] at hE1 hE2
    generalize hk' : s'.k = k' at *
    (repeat' (first | ((with_reducible refine w9i ?_); first | ((apply JA.takeG (fuel := 14) (i := 24)); rfl; rfl; kernel_rfl; exact (StepW.mov (.inl rfl) FM.st)) | ((apply JA.takeG (fuel := 13) (i := 26)); rfl; rfl; kernel_rfl; exact (by first | exact w_fadM rfl rfl rfl rfl rfl rfl rfl rfl rfl | exact w_fadO rfl rfl rfl rfl rfl rfl rfl rfl | exact w_fadR rfl rfl rfl rfl rfl rfl rfl rfl rfl | exact w_fadDh rfl rfl rfl rfl rfl rfl rfl)) | ((apply JA.two (fuel := 12) (i := 25) (j := 27)); kernel_rfl; rfl; rfl) | ((apply JA.one (fuel := 11) (i := 27)); decide +kernel; rfl) | ((apply JA.one (fuel := 11) (i := 25)); decide +kernel; rfl) | ((apply JA.one (fuel := 10) (i := 28)); kernel_rfl; rfl) | ((apply JA.one (fuel := 9) (i := 29)); kernel_rfl; rfl) | ((apply JA.one (fuel := 8) (i := 30)); kernel_rfl; rfl) | ((apply JA.take (fuel := 7) (i := 31)); rfl; exact .inl rfl; rfl; kernel_rfl; exact FM.st) | ((apply JA.takeG (fuel := 6) (i := 32)); rfl; rfl; kernel_rfl; exact (StepW.mov (.inl rfl) FM.st)) | ((apply JA.takeG (fuel := 5) (i := 34)); rfl; rfl; kernel_rfl; exact (by first | exact w_fadM rfl rfl rfl rfl rfl rfl rfl rfl rfl | exact w_fadO rfl rfl rfl rfl rfl rfl rfl rfl | exact w_fadR rfl rfl rfl rfl rfl rfl rfl rfl rfl | exact w_fadDh rfl rfl rfl rfl rfl rfl rfl)) | ((apply JA.two (fuel := 4) (i := 33) (j := 35)); kernel_rfl; rfl; rfl) | ((apply JA.one (fuel := 3) (i := 35)); decide +kernel; rfl) | ((apply JA.one (fuel := 3) (i := 33)); decide +kernel; rfl) | ((apply JA.one (fuel := 2) (i := 36)); kernel_rfl; rfl) | ((apply JA.one (fuel := 1) (i := 37)); kernel_rfl; rfl) | ((apply JA.one (fuel := 0) (i := 38)); kernel_rfl; rfl) | ((apply JA.done (fuel := 0)); kernel_rfl)) | ((refine CW.regU 24 15 ?_ (List.replicate 24 true ++ List.replicate 15 false) ?_ ?_ ?_); rfl; kernel_rfl; rfl; simp only [List.take_succ_cons, List.take_zero]) | ((with_reducible apply J.step); rfl; ((with_reducible apply s_fadM) <;> rfl)) | ((with_reducible apply J.step); rfl; ((with_reducible apply s_fadFF) <;> rfl)) | ((with_reducible apply J.step); rfl; ((with_reducible apply s_neqR) <;> rfl)) | ((with_reducible apply J.step); rfl; (exact s_neS2R Tryz.underlying36 rfl rfl rfl rfl (by decide) (by decide) stoodTold Tryz.underlying3 guardTold rfl rfl)) | refine w9x ?_ | refine w9h (hF) ?_ | ((with_reducible first | apply J.callP (hG) | apply J.callPQ (hG)); rfl; rfl; (repeat' (first | exact ArgsOk.nil | exact ArgOk.br rfl AV.noConfusion sh_hs | apply ArgsOk.cons | exact ArgOk.pl rfl rfl | exact ArgOk.br rfl AV.noConfusion (by first | rfl | exact sh_int | exact sh_rows | exact sh_rowsO | exact sh_box | exact sh_map (fun _ => rfl)))); (first | rfl | exact gn0 | exact gnI)) | ((with_reducible first | apply J.callP (hA) | apply J.callPQ (hA)); rfl; rfl; (repeat' (first | exact ArgsOk.nil | exact ArgOk.br rfl AV.noConfusion sh_hs | apply ArgsOk.cons | exact ArgOk.pl rfl rfl | exact ArgOk.br rfl AV.noConfusion (by first | rfl | exact sh_int | exact sh_rows | exact sh_rowsO | exact sh_box | exact sh_map (fun _ => rfl)))); (first | rfl | exact gn0 | exact gnI)) | ((with_reducible first | apply J.callP (hO) | apply J.callPQ (hO)); rfl; rfl; (repeat' (first | exact ArgsOk.nil | exact ArgOk.br rfl AV.noConfusion sh_hs | apply ArgsOk.cons | exact ArgOk.pl rfl rfl | exact ArgOk.br rfl AV.noConfusion (by first | rfl | exact sh_int | exact sh_rows | exact sh_rowsO | exact sh_box | exact sh_map (fun _ => rfl)))); (first | rfl | exact gn0 | exact gnI)) | ((with_reducible first | apply J.callP (hZ) | apply J.callPQ (hZ)); rfl; rfl; (repeat' (first | exact ArgsOk.nil | exact ArgOk.br rfl AV.noConfusion sh_hs | apply ArgsOk.cons | exact ArgOk.pl rfl rfl | exact ArgOk.br rfl AV.noConfusion (by first | rfl | exact sh_int | exact sh_rows | exact sh_rowsO | exact sh_box | exact sh_map (fun _ => rfl)))); (first | rfl | exact gn0 | exact gnI)) | ((with_reducible first | apply J.callP (hE1) | apply J.callPQ (hE1)); rfl; rfl; (repeat' (first | exact ArgsOk.nil | exact ArgOk.br rfl AV.noConfusion sh_hs | apply ArgsOk.cons | exact ArgOk.pl rfl rfl | exact ArgOk.br rfl AV.noConfusion (by first | rfl | exact sh_int | exact sh_rows | exact sh_rowsO | exact sh_box | exact sh_map (fun _ => rfl)))); (first | rfl | exact gn0 | exact gnI)) | ((with_reducible first | apply J.callP (hE2) | apply J.callPQ (hE2)); rfl; rfl; (repeat' (first | exact ArgsOk.nil | exact ArgOk.br rfl AV.noConfusion sh_hs | apply ArgsOk.cons | exact ArgOk.pl rfl rfl | exact ArgOk.br rfl AV.noConfusion (by first | rfl | exact sh_int | exact sh_rows | exact sh_rowsO | exact sh_box | exact sh_map (fun _ => rfl)))); (first | rfl | exact gn0 | exact gnI)) | (refine w9c ?_ ?_ <;> intro _ <;> try exact w9o) | (refine w9d ?_ ?_ <;> intro _ <;> try exact w9s) | (refine w9q ?_; intro bnil hbnil)))
    all_goals first | (exfalso; omega) | contradiction | skip
    all_goals
      subst hk'
      refine ⟨(k + 1, s'), ?_, by first | omega | (simp only; omega), by exact w9a⟩
      exact ⟨by simp only; omega, hs'⟩
  · obtain rfl : k = l.length := by omega
    (repeat' (first | ((with_reducible apply J.step); rfl; ((with_reducible apply s_fadM) <;> rfl)) | ((with_reducible apply J.step); rfl; ((with_reducible apply s_fadFF) <;> rfl)) | refine w9x ?_ | (refine w9c ?_ ?_ <;> intro _ <;> try exact w9o) | (refine w9d ?_ ?_ <;> intro _ <;> try exact w9s) | (refine w9q ?_; intro bnil hbnil)))
    all_goals first | (exfalso; omega) | exact .mk rfl rfl rfl
end Go.Proofs.YtkkcnppgcnmikaaGreatDoor
