/- Arrays as values: built, compared; an alias of a row refreshed. No program in sight. -/
import Derived.Test.YtohgcgedbhlnfaaFp
namespace FM
open Go Go.RowKit
set_option linter.all false
section
variable {S : Sys} {N : Nat} {σ : St} {d : Nat} {ty : Nat} {pos : String} {aft : Array Edge} {g : Option (Nat × Bool)}
theorem flatMap_cells : ∀ {vs : List Value}, (∀ v ∈ vs, v.cells = #[v]) → (vs.flatMap fun v => v.cells.toList) = vs
  | [], _ => rfl
  | v :: vs, h => by rw [List.flatMap_cons, h v (List.mem_cons_self ..), flatMap_cells fun u hu => h u (List.mem_cons_of_mem _ hu)]; rfl
/-- [n]T{..}: parts of one cell each. -/
theorem s_bldA {t e n sz by_ : Nat} {zz : List AV} {ti : TI} {xs : List Operand} {ys : List AV} {ps : Array (Nat × Operand)} (hT : S.T t = some ⟨.arr n e, sz, by_, zz⟩) (hE : S.T e = some ti) (hc : ti.size = 1) (hsz : sz = n)
    (hps : ps = (xs.zipIdx.map fun p => (p.2, p.1)).toArray) (hn : xs.length = n) (hp : PartsOk σ xs ys) (hok : ys.all AV.cellOk = true) : Step S ⟨some d, .build t ps, ty, pos, aft, g⟩ σ (σ.put d (.av (.agg ys))) := by
  subst hps; subst hn
  refine step_val rfl fun w0 L0 N a w L hR => ?_
  have hv := parts_values hR hp
  have hl : (xs.map a.eval).length = ys.length := by rw [List.length_map, hp.length]
  have h1 : ∀ v ∈ xs.map a.eval, v.cells = #[v] := fun v hv' => by
    obtain ⟨i, hi⟩ := List.getElem?_of_mem hv'
    have hlt : i < ys.length := by rw [← hl]; exact (List.getElem?_eq_some_iff.1 hi).1
    exact (cellOk_spec (hv i ys[i] v (List.getElem?_eq_getElem hlt) hi) (List.all_eq_true.1 hok _ (List.getElem_mem hlt))).1
  obtain ⟨f, zv, hf1, hf2, hf3, hf4, hf5, hf6, hf7⟩ := (S.ok t _ hT).info
  obtain ⟨fe, hfe1, hfe2⟩ := (S.ok e ti hE).size
  have hf7' : zv.cells.size = xs.length := by rw [hf7]; exact hsz
  obtain ⟨arr', p1, p2, p3⟩ := fill_parts 1 (xs.map a.eval) 0 zv.cells (fun v hv' => by rw [h1 v hv']; rfl) (by rw [List.length_map, hf7']; omega)
  have harr : arr' = (xs.map a.eval).toArray := by
    apply Array.ext_getElem?
    intro j
    rw [p3 j, flatMap_cells h1]
    by_cases hj : j < xs.length
    · rw [if_pos (by rw [List.length_map]; omega), Nat.zero_mul, Nat.sub_zero, List.getElem?_toArray]
    · rw [if_neg (by rw [List.length_map]; omega), Array.getElem?_eq_none (by omega), Array.getElem?_eq_none (by simp; omega)]
  subst harr
  refine ⟨.agg (xs.map a.eval).toArray, fun w' _ => ?_, .agg hl fun i x v hx hv' => hv i x v hx hv'⟩
  have e1 : ((xs.zipIdx.map fun p => (p.2, p.1)).toArray.map fun (i, x) => (i, a.eval x)) = ((xs.map a.eval).zipIdx.map fun p => (p.2, p.1)).toArray := by
    rw [List.zipIdx_map]
    simp
  have hsz1 : fe.size = 1 := by rw [hfe2, hc]
  simp only [execOp, Sem.run_bind]
  rw [e1]
  simp only [Instr.build, zeroValue, typeInfo, Go.sizeOf, Sem.run_bind, run_program, hf1, hf4, Result.andThen_ok, Sem.run_pure, run_underlying (S.ok t _ hT).arr, hfe1, hsz1]
  simp only [p1, Sem.run_pure, Result.andThen_ok]
theorem rep_agg2 {L : Nat → Lab} {w : World} {π : Option (List Nat)} {a b : Int} {v : Value} (h : Rep L w π (.agg [.int a, .int b]) v) : v = .agg #[.int .i64 a, .int .i64 b] := by
  cases h with
  | @agg _ _ vs hl h =>
    match vs, hl with
    | [x, y], _ =>
      have h1 := h 0 (.int a) x rfl rfl
      have h2 := h 1 (.int b) y rfl rfl
      cases h1; cases h2; rfl
theorem run_eqA2 {P : Program} {t e : Nat} {k : IntKind} (ht : P.underlying t = some (.array 2 e)) (he : P.underlying e = some (.int k)) (hs : ∃ f, P.info? e = some f ∧ f.size = 1) (hg : ∀ w, (isAgg e).run P w = .ok false w) (a b c d : Int) (w : World) :
    (Op.equal t (.agg #[.int .i64 a, .int .i64 b]) (.agg #[.int .i64 c, .int .i64 d])).run P w = .ok (decide (a = c ∧ b = d)) w := by
  obtain ⟨f, hf1, hf2⟩ := hs
  show (Op.equalIn (9998 + 1 + 1) t _ _).run P w = _
  have inner : ∀ x y : Int, ∀ w, (Op.equalIn (9998 + 1) e (.int .i64 x) (.int .i64 y)).run P w = .ok (x == y) w := fun x y w => by
    unfold Op.equalIn
    rw [Sem.run_bind, run_underlying he, Result.andThen_ok]
    rfl
  have hb : ∀ x y : Int, (x == y) = decide (x = y) := fun x y => by rw [Bool.eq_iff_iff]; simp
  rw [Op.equalIn]
  simp only [Sem.run_bind, run_underlying ht, Result.andThen_ok, Go.sizeOf, typeInfo, run_program, hf1, Sem.run_pure, hf2]
  simp only [Std.Legacy.Range.forIn_eq_forIn_range', Std.Legacy.Range.size, Nat.sub_zero, Nat.add_sub_cancel, Nat.div_one, show List.range' 0 2 = [0, 1] from rfl, List.forIn_cons, List.forIn_nil, part, Sem.run_bind, hg, Result.andThen_ok]
  by_cases h1 : a = c <;> by_cases h2 : b = d <;> simp [inner, hb, h1, h2, hg, part]
theorem TOk.int {P : Program} {t sz by_ : Nat} {k : IntKind} {z : List AV} (h : TOk P t ⟨.int k, sz, by_, z⟩) : P.underlying t = some (.int k) := by
  obtain ⟨d, hd, he⟩ := h.desc
  simp only [TK.ofDesc] at he
  rw [hd, he]
theorem run_isAgg {P : Program} {e : Nat} {k : IntKind} (he : P.underlying e = some (.int k)) (w : World) : (isAgg e).run P w = .ok false w := by
  unfold isAgg
  rw [Sem.run_bind, run_underlying he, Result.andThen_ok]
  rfl
theorem run_guardA2 {P : Program} {op : BinOp} {t : Nat} {x y : Operand} (hg : P.eqGuardType P.depth t = false) (u v : Array Value) (w : World) : (eqGuard op t x y (.agg u) (.agg v)).run P w = .ok () w := by
  unfold eqGuard
  cases op <;> simp [Sem.run_bind, run_program, hg]
theorem s_eqA2 {t t2 e sz by_ sz2 by2 : Nat} {k : IntKind} {zz zz2 : List AV} {x y : Operand} {a b c d' : Int} (hT : S.T t = some ⟨.arr 2 e, sz, by_, zz⟩) (hE : S.T e = some ⟨.int k, sz2, by2, zz2⟩) (h1 : sz2 = 1) (hg : S.P.eqGuardType S.P.depth t = false)
    (hx : ov σ x = .av (.agg [.int a, .int b])) (hy : ov σ y = .av (.agg [.int c, .int d'])) : Step S ⟨some d, .binOp .eql t x y t2, ty, pos, aft, g⟩ σ (σ.put d (.av (.bool (decide (a = c ∧ b = d'))))) :=
  step_val rfl fun w0 L0 N A w L hR => ⟨.bool (decide (a = c ∧ b = d')), fun w' _ => by
    subst h1
    have hx' := rep_agg2 (ev_av hR hx).choose_spec
    have hy' := rep_agg2 (ev_av hR hy).choose_spec
    have e1 := run_eqA2 (S.ok t _ hT).arr (S.ok e _ hE).int (S.ok e _ hE).size (run_isAgg (S.ok e _ hE).int) a b c d' w'
    have e2 : (binOp .eql t (.agg #[.int .i64 a, .int .i64 b]) (.agg #[.int .i64 c, .int .i64 d'])).run S.P w' = .ok (.bool (decide (a = c ∧ b = d'))) w' := by
      show (do pure (.bool (← Op.equal t _ _)) : Sem Value).run S.P w' = _
      rw [Sem.run_bind, e1]; rfl
    simp only [execOp, hx', hy', Sem.run_bind]
    simp [run_guardA2 hg, e2], .bool⟩
theorem s_neqA2 {t t2 e sz by_ sz2 by2 : Nat} {k : IntKind} {zz zz2 : List AV} {x y : Operand} {a b c d' : Int} (hT : S.T t = some ⟨.arr 2 e, sz, by_, zz⟩) (hE : S.T e = some ⟨.int k, sz2, by2, zz2⟩) (h1 : sz2 = 1) (hg : S.P.eqGuardType S.P.depth t = false)
    (hx : ov σ x = .av (.agg [.int a, .int b])) (hy : ov σ y = .av (.agg [.int c, .int d'])) : Step S ⟨some d, .binOp .neq t x y t2, ty, pos, aft, g⟩ σ (σ.put d (.av (.bool (decide (¬ (a = c ∧ b = d')))))) :=
  step_val rfl fun w0 L0 N A w L hR => ⟨.bool (decide (¬ (a = c ∧ b = d'))), fun w' _ => by
    subst h1
    have hx' := rep_agg2 (ev_av hR hx).choose_spec
    have hy' := rep_agg2 (ev_av hR hy).choose_spec
    have e1 := run_eqA2 (S.ok t _ hT).arr (S.ok e _ hE).int (S.ok e _ hE).size (run_isAgg (S.ok e _ hE).int) a b c d' w'
    have e2 : (binOp .neq t (.agg #[.int .i64 a, .int .i64 b]) (.agg #[.int .i64 c, .int .i64 d'])).run S.P w' = .ok (.bool (!decide (a = c ∧ b = d'))) w' := by
      show (do pure (.bool (!(← Op.equal t _ _))) : Sem Value).run S.P w' = _
      rw [Sem.run_bind, e1]; rfl
    rw [decide_not]
    simp only [execOp, hx', hy', Sem.run_bind]
    simp [run_guardA2 hg, e2], .bool⟩
/-- A row's alias, read anew. -/
theorem CW.reref {c : Code} {Q : Exit → St → Prop} (t : Nat) {s i : Nat} {y0 y : AV} {xs : List AV} (ht : get σ t = .rref s i y0) (hs : get σ s = .av (.sl true 1 xs)) (hy : xs[i]? = some y) (h1 : y.cells = [y]) (hst : Nat.beq s t = false) (h : CW S N c Q (σ.put t (.rref s i y))) : CW S N c Q σ := by
  unfold CW at *
  refine fun w0 L0 Q' a w hQ ⟨L, hR⟩ => h w0 L0 Q' a w hQ ⟨L, hR.defers, hR.size, hR.keep, hR.lok, fun n hn => ?_, fun n hn => ?_, hR.fix, hR.glob⟩
  · simp only [get, kill_eq]
    by_cases htn : t = n
    · subst htn
      rw [Nat.beq_refl, cond_true]
      have hh := hR.hold t hn
      rw [ht] at hh
      have hhs := hR.hold s (own_lt hR hs (by simp))
      rw [hs] at hhs
      simp only [Hold] at hh hhs ⊢
      obtain ⟨b, h2, h3, _⟩ := hh
      obtain ⟨b1, arr1, e1, u1, cap1, hb1, hheap1, hsv, harr1, hrow⟩ := row_at hhs hy h1
      have := hR.lok.inj _ _ _ h2 hb1
      subst this
      refine ⟨b, h2, h3, fun _ => ?_⟩
      rw [cell_of_row w b i arr1 e1 (0, 0) hheap1, harr1] at h3
      have e := Option.some.inj h3
      rw [← e]
      exact hrow
    · rw [not_beq htn, cond_false]
      cases (get σ n).dep t <;> first | trivial | exact hR.hold n hn
  · simp only [get, kill_eq]
    have := own_lt hR ht (by simp)
    rw [not_beq (show t ≠ n by omega), cond_false, hR.out n hn]; rfl
/-- []T{x}, x being what slot t0 owns: it moves into the new row. -/
theorem e_litC {t e sz by_ : Nat} {zz : List AV} {ti : TI} {x : Operand} {t0 : Nat} {r : AV} (hT : S.T t = some ⟨.slice e, sz, by_, zz⟩) (hE : S.T e = some ti) (hc : Nat.beq ti.size 1 = true) (ht0 : get σ t0 = .av r) (hok : r.cellOk = true) (hdt : Nat.beq t0 d = false)
    (hv : ∀ (w0 : World) (L0 : Nat → Lab) (N : Nat) (a : Act) (w : World) (L : Nat → Lab), RelL S w0 L0 N σ a w L → a.eval x = a.tmps.getD t0 undef) :
    EStep S ⟨some d, .buildSlice t 1 #[(0, x)], ty, pos, aft, g⟩ σ (((σ.put d (.av (.sl true 1 [.dead]))).put t0 .none).upd false d (.av (.sl true 1 [r]))) := by
  intro w0 L0 N a w hN ⟨L, hR⟩
  have hev := hv _ _ _ _ _ _ hR
  have htd : t0 ≠ d := of_not_beq hdt
  have htN := own_lt hR ht0 (by simp)
  have ht := hR.hold t0 htN
  rw [ht0] at ht
  simp only [Hold] at ht
  obtain ⟨V, hV⟩ : ∃ V, a.tmps.getD t0 undef = V := ⟨_, rfl⟩
  rw [hV] at hev ht
  obtain ⟨c1, c2, c3⟩ := cellOk_spec ht hok
  have hrun := run_buildSlice hT hE (Nat.eq_of_beq_eq_true hc) (vs := [V]) (fun v hv => by rw [List.mem_singleton.1 hv, c1]; rfl) (by simp [c1]) (by simp) w
  have harr : ([V].flatMap fun v => v.cells.toList).toArray = #[V] := by simp [c1]
  rw [harr] at hrun
  have hdN := hN d rfl
  obtain ⟨L', hR'⟩ := hR.alloc hdN (o := .cells #[V] e) (x := .sl true 1 [.dead]) (v := .slice (some ⟨w.heap.size, 0, none⟩) 1 1) (rep_new (n := 1) (cap := 1) rfl (fun x hx => by rw [List.mem_singleton.1 hx]; rfl) (Nat.le_refl _) rfl fun o y hy => by
    cases o with
    | zero => simp only [flat, List.flatMap_cons, List.flatMap_nil, AV.cells, List.append_nil, List.getElem?_cons_zero, Option.some.injEq] at hy; subst hy; exact ⟨_, rfl, .dead⟩
    | succ o => simp [flat, AV.cells] at hy)
  have hget : (a.put (some d) (.slice (some ⟨w.heap.size, 0, none⟩) 1 1)).tmps.getD d undef = .slice (some ⟨w.heap.size, 0, none⟩) 1 1 := getD_set_same (by rw [hR.size]; exact hdN.lt)
  have hget0 : (a.put (some d) (.slice (some ⟨w.heap.size, 0, none⟩) 1 1)).tmps.getD t0 undef = V := (getD_set_other htd.symm).trans hV
  have hb : L' w.heap.size = .my [d] := by
    have h := hR'.hold d hdN.lt
    simp only [get, kill_eq, Nat.beq_refl, cond_true, Hold] at h
    rw [hget] at h
    cases h with
    | slO u hL _ _ _ _ _ _ => exact hL
  refine ⟨_, _, .inl ?_, _, hR'.into (s := d) (i := 0) (t0 := t0) (r := r) (xs := [.dead]) ?_ ?_ c3 htd (by simp) fun b' hb' => ?_⟩
  · simp only [execOp, Sem.run_bind]
    have e1 : (#[(0, x)].map fun (i, x) => (i, a.eval x)) = (([V] : List Value).zipIdx.map fun p => (p.2, p.1)).toArray := by simp [hev]
    rw [e1]
    have := hrun
    simp only [List.length_cons, List.length_nil, Nat.zero_add] at this
    rw [this]; rfl
  · simp only [get, kill_eq, Nat.beq_refl, cond_true]
  · simp only [get, kill_eq, not_beq htd.symm, cond_false, ht0]; rfl
  · have := hR'.lok.inj _ _ _ hb' hb
    subst this
    rw [cell_of_row _ _ 0 #[V] e (0, 0) (heap_alloc_new w _), hget0]
    rfl
theorem e_litO {t e sz by_ : Nat} {zz : List AV} {ti : TI} {t0 : Nat} {r : AV} (ht0 : get σ t0 = .av r) (_ho : r.isOwn = true) (hT : S.T t = some ⟨.slice e, sz, by_, zz⟩) (hE : S.T e = some ti) (hc : Nat.beq ti.size 1 = true) (hok : r.cellOk = true) (hdt : Nat.beq t0 d = false) :
    EStep S ⟨some d, .buildSlice t 1 #[(0, .tmp t0)], ty, pos, aft, g⟩ σ (((σ.put d (.av (.sl true 1 [.dead]))).put t0 .none).upd false d (.av (.sl true 1 [r]))) :=
  e_litC hT hE hc ht0 hok hdt fun _ _ _ _ _ _ _ => rfl
theorem e_litR {t e sz by_ q : Nat} {zz : List AV} {ti : TI} {t0 : Nat} {r : AV} (hq : get σ q = .ref t0) (ht0 : get σ t0 = .av r) (hT : S.T t = some ⟨.slice e, sz, by_, zz⟩) (hE : S.T e = some ti) (hc : Nat.beq ti.size 1 = true) (hok : r.cellOk = true) (hdt : Nat.beq t0 d = false) :
    EStep S ⟨some d, .buildSlice t 1 #[(0, .tmp q)], ty, pos, aft, g⟩ σ (((σ.put d (.av (.sl true 1 [.dead]))).put t0 .none).upd false d (.av (.sl true 1 [r]))) :=
  e_litC hT hE hc ht0 hok hdt fun _ _ _ _ _ _ hR => by
    have h := hR.hold q (own_lt hR hq (by simp))
    rw [hq] at h
    exact h
end
end FM
