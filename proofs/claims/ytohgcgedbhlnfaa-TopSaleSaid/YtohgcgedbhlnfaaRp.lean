/- slices.Repeat of a row of one, one to four times. -/
import Derived.Test.YtohgcgedbhlnfaaLx
import Derived.Test.YtohgcgedbhlnfaaRj
import Derived.Laws.CopyOwn
import Derived.Laws.OwnMore
namespace Go.Proofs.Ytohgcgedbhlnfaa
open Go Go.Proofs Go.Shelf Go.RowKit Go.Lib FM
set_option linter.all false
set_option maxHeartbeats 3200000
set_option maxRecDepth 100000
theorem rep_one {x : Int} (c : Nat) : ∀ v ∈ List.replicate c (Value.int .i64 x), v.oneCell' = true := fun v hv => by rw [List.eq_of_mem_replicate hv]; rfl
theorem rep_own {w : World} {g : Nat} {R cs : List Value} {t : TypeId} (hg : w.heap[g]? = some (.cells R.toArray t (0, 0))) (h : ∀ (j : Nat) v, cs[j]? = some v → R[j]? = some v) : ∀ (j : Nat) v, cs[j]? = some v → w.cell? ((⟨g, 0, none⟩ : Addr).add j) = some v := fun j v hj => by
  rw [addr_add, Nat.zero_add, cell_of_row w g j R.toArray t (0, 0) hg]
  simpa using h j v hj
theorem rep_src {x : Int} {b off : Nat} {w : World} (hb : b < w.heap.size) (hc : w.cell? ⟨b, off, none⟩ = some (.int .i64 x)) (o : Obj) : ∀ (j : Nat) v, [Value.int .i64 x][j]? = some v → (w.alloc o).cell? ((⟨b, off, none⟩ : Addr).add j) = some v := fun j v hj => by
  match j, hj with
  | 0, hj =>
    cases hj
    rw [show ((⟨b, off, none⟩ : Addr).add 0) = ⟨b, off, none⟩ from rfl]
    exact (World.cell?_of_block (w := w) (by show (w.heap.push o)[b]? = _; rw [Array.getElem?_push_lt hb, Array.getElem?_eq_getElem hb])).trans hc
/-- A loop, turned a known number of times. -/
noncomputable def unr (P : Program) (c : Code) (Q : Exit → Act → World → Prop) : Nat → Act → World → Prop
  | 0 => c.wp P (Exit.then (fun _ _ => False) Q)
  | k + 1 => c.wp P (Exit.then (unr P c Q k) Q)
theorem leastN {p : Nat → Prop} (h : ∃ k, p k) : ∃ k, p k ∧ ∀ j, p j → k ≤ j := by
  obtain ⟨k, hk⟩ := h
  induction k using Nat.strongRecOn with
  | _ k ih =>
    by_cases c : ∃ j, j < k ∧ p j
    · obtain ⟨j, h1, h2⟩ := c; exact ih j h1 h2
    · exact ⟨k, hk, fun j hj => Nat.le_of_not_lt fun h => c ⟨j, h, hj⟩⟩
theorem wp_loop_unr {P : Program} {c : Code} {Q : Exit → Act → World → Prop} {a : Act} {w : World} (k : Nat) (h : unr P c Q k a w) : (Code.loop c).wp P Q a w := by
  classical
  refine wp_loop (fun a w => ∃ k, unr P c Q k a w) (fun a w => if h : ∃ k, unr P c Q k a w then (leastN h).choose else 0) ⟨k, h⟩ fun a w hI => ?_
  have hs := (leastN hI).choose_spec.1
  simp only [dif_pos hI]
  generalize (leastN hI).choose = n at *
  match n, hs with
  | 0, hs => exact Code.wp_mono (fun e a w q => by cases e <;> first | exact q | exact q.elim) hs
  | n + 1, hs =>
    refine Code.wp_mono (fun e a w q => ?_) hs
    cases e <;> first
      | exact q
      | (have q' : ∃ k, unr P c Q k a w := ⟨n, q⟩
         exact ⟨q', by rw [dif_pos q']; exact Nat.lt_succ_of_le ((leastN q').choose_spec.2 n q)⟩)
theorem wp_loop_2 {P : Program} {c : Code} {Q : Exit → Act → World → Prop} {a : Act} {w : World} (h : c.wp P (Exit.then (c.wp P (Exit.then (fun _ _ => False) Q)) Q) a w) : (Code.loop c).wp P Q a w := wp_loop_unr 1 h
theorem wp_loop_3 {P : Program} {c : Code} {Q : Exit → Act → World → Prop} {a : Act} {w : World} (h : c.wp P (Exit.then (c.wp P (Exit.then (c.wp P (Exit.then (fun _ _ => False) Q)) Q)) Q) a w) : (Code.loop c).wp P Q a w := wp_loop_unr 2 h
theorem wp_loop_1 {P : Program} {c : Code} {Q : Exit → Act → World → Prop} {a : Act} {w : World} (h : c.wp P (Exit.then (fun _ _ => False) Q) a w) : (Code.loop c).wp P Q a w := wp_loop_unr 0 h
theorem rep1 (x : Int) (b off cap : Nat) (w : World) (hb : b < w.heap.size) (hc : w.cell? ⟨b, off, none⟩ = some (.int .i64 x)) :
    Calls Try.prog 44 #[.slice (some ⟨b, off, none⟩) 1 cap, .int .i64 1] w fun e w' => e = .returned (.slice (some ⟨w.heap.size, 0, none⟩) 1 1) ∧ w'.heap[w.heap.size]? = some (.cells (List.replicate 1 (Value.int .i64 x)).toArray 3 (0, 0)) ∧ Below w.heap.size w w' := by
  obtain ⟨f, zv, hf1, hf2, hf3, hf4, hf5, hf6, hf7⟩ := (Sy.ok 3 ⟨.int .i64, 1, 8, [.int 0]⟩ rfl).info
  have hmul := Any.bits_Mul lmul 1 1 (by decide) (by decide)
  rw [show lmul_ren.f 212 = 94 from rfl] at hmul
  have e94 : ∀ args w, (callFunc 94 args).run Try.prog w = .ok (.enter 94 args) w := enters_of Try.func94 (by kernel_rfl) rfl
  have hinfo : (Try.prog.info? 3).map (·.size) = some 1 := by rw [show Try.prog.info? 3 = some f from hf1]; simp [hf2]
  have hone1 : ∀ v ∈ [Value.int .i64 x], v.oneCell' = true := fun v hv => by rw [List.mem_singleton.1 hv]; rfl
  have hsrc0 := rep_src hb hc
  have hmk : ∀ W : World, (Instr.makeSlice 26 (.int .i64 1) (.int .i64 1)).run Try.prog W = .ok (.slice (some ⟨W.heap.size, 0, none⟩) 1 1) (W.alloc (.cells #[Value.int .i64 0] 3)) := fun W => by
    have h := run_make (P := Try.prog) W 26 3 f zv Try.underlying26 hf1 hf4 .i64 .i64 1 1 (by decide) (by decide) (by rw [hf3]; decide) (by decide)
    rw [h]
    have e : zv.cells = #[.int .i64 0] := Array.toList_inj.1 hf5
    rw [e, hf2, show madeCells #[Value.int .i64 0] (Int.toNat 1 * 1) = (List.replicate 1 (Value.int .i64 0)).toArray from ?_]
    · rfl
    · apply Array.ext
      · rw [size_madeCells]; rfl
      · intro i h1 h2
        have e2 : (List.replicate 1 (Value.int .i64 0)).toArray[i] = Value.int .i64 0 := by rw [List.getElem_toArray, List.getElem_replicate]
        rw [e2]; simp [madeCells, Nat.mod_one]
  go_enter Try.func44, Try.ntmps44
  go_wp2_with (first | (go_at_fn 94; refine (hmul _).mono ?_; rintro e w' ⟨rfl, hw⟩; rw [hw]) | (refine wpList_copy_splice rfl _ _ 26 26 rfl 3 Try.underlying26 hinfo _ _ _ _ _ _ rfl rfl w.heap.size 0 [Value.int .i64 0] 3 (heap_alloc_new w _) [Value.int .i64 x] rfl (fun _ => ⟨rfl, _, rfl, hsrc0 _⟩) (by exact Nat.le_of_ble_eq_true rfl) hone1 w.heap.size w ((Below.refl _ w).alloc (Nat.le_refl _) _) (Nat.le_refl _) ?_; intro w1 hg1 hb1))
  refine wp_loop_1 ?_
  go_wp2
  go_ret
  exact ⟨rfl, hg1.out, hb1⟩
theorem rep2 (x : Int) (b off cap : Nat) (w : World) (hb : b < w.heap.size) (hc : w.cell? ⟨b, off, none⟩ = some (.int .i64 x)) :
    Calls Try.prog 44 #[.slice (some ⟨b, off, none⟩) 1 cap, .int .i64 2] w fun e w' => e = .returned (.slice (some ⟨w.heap.size, 0, none⟩) 2 2) ∧ w'.heap[w.heap.size]? = some (.cells (List.replicate 2 (Value.int .i64 x)).toArray 3 (0, 0)) ∧ Below w.heap.size w w' := by
  obtain ⟨f, zv, hf1, hf2, hf3, hf4, hf5, hf6, hf7⟩ := (Sy.ok 3 ⟨.int .i64, 1, 8, [.int 0]⟩ rfl).info
  have hmul := Any.bits_Mul lmul 1 2 (by decide) (by decide)
  rw [show lmul_ren.f 212 = 94 from rfl] at hmul
  have e94 : ∀ args w, (callFunc 94 args).run Try.prog w = .ok (.enter 94 args) w := enters_of Try.func94 (by kernel_rfl) rfl
  have hinfo : (Try.prog.info? 3).map (·.size) = some 1 := by rw [show Try.prog.info? 3 = some f from hf1]; simp [hf2]
  have hone1 : ∀ v ∈ [Value.int .i64 x], v.oneCell' = true := fun v hv => by rw [List.mem_singleton.1 hv]; rfl
  have hsrc0 := rep_src hb hc
  have hmk : ∀ W : World, (Instr.makeSlice 26 (.int .i64 2) (.int .i64 2)).run Try.prog W = .ok (.slice (some ⟨W.heap.size, 0, none⟩) 2 2) (W.alloc (.cells #[Value.int .i64 0, Value.int .i64 0] 3)) := fun W => by
    have h := run_make (P := Try.prog) W 26 3 f zv Try.underlying26 hf1 hf4 .i64 .i64 2 2 (by decide) (by decide) (by rw [hf3]; decide) (by decide)
    rw [h]
    have e : zv.cells = #[.int .i64 0] := Array.toList_inj.1 hf5
    rw [e, hf2, show madeCells #[Value.int .i64 0] (Int.toNat 2 * 1) = (List.replicate 2 (Value.int .i64 0)).toArray from ?_]
    · rfl
    · apply Array.ext
      · rw [size_madeCells]; rfl
      · intro i h1 h2
        have e2 : (List.replicate 2 (Value.int .i64 0)).toArray[i] = Value.int .i64 0 := by rw [List.getElem_toArray, List.getElem_replicate]
        rw [e2]; simp [madeCells, Nat.mod_one]
  go_enter Try.func44, Try.ntmps44
  go_wp2_with (first | (go_at_fn 94; refine (hmul _).mono ?_; rintro e w' ⟨rfl, hw⟩; rw [hw]) | (refine wpList_copy_splice rfl _ _ 26 26 rfl 3 Try.underlying26 hinfo _ _ _ _ _ _ rfl rfl w.heap.size 0 [Value.int .i64 0, Value.int .i64 0] 3 (heap_alloc_new w _) [Value.int .i64 x] rfl (fun _ => ⟨rfl, _, rfl, hsrc0 _⟩) (by exact Nat.le_of_ble_eq_true rfl) hone1 w.heap.size w ((Below.refl _ w).alloc (Nat.le_refl _) _) (Nat.le_refl _) ?_; intro w1 hg1 hb1))
  refine wp_loop_2 ?_
  go_wp2
  go_region_law? (refine step_copy_splice rfl (.tmp 41) (.tmp 44) 26 26 rfl 3 Try.underlying26 hinfo _ _ 1 1 1 2 (by simp [Act.eval, Act.put]) (by simp [Act.eval, Act.put]) w.heap.size 1 [Value.int .i64 x, Value.int .i64 0] 3 hg1.out [Value.int .i64 x] rfl (fun _ => ⟨rfl, _, rfl, rep_own hg1.out (by intro j v hj; match j, hj with | 0, hj => exact hj)⟩) (by exact Nat.le_of_ble_eq_true rfl) (rep_one 1) w.heap.size w hb1.drew (Nat.le_refl _) ?_; intro w2 hg2 hb2)
  go_wp2
  go_ret
  exact ⟨rfl, hg2.out, hb2⟩
theorem rep3 (x : Int) (b off cap : Nat) (w : World) (hb : b < w.heap.size) (hc : w.cell? ⟨b, off, none⟩ = some (.int .i64 x)) :
    Calls Try.prog 44 #[.slice (some ⟨b, off, none⟩) 1 cap, .int .i64 3] w fun e w' => e = .returned (.slice (some ⟨w.heap.size, 0, none⟩) 3 3) ∧ w'.heap[w.heap.size]? = some (.cells (List.replicate 3 (Value.int .i64 x)).toArray 3 (0, 0)) ∧ Below w.heap.size w w' := by
  obtain ⟨f, zv, hf1, hf2, hf3, hf4, hf5, hf6, hf7⟩ := (Sy.ok 3 ⟨.int .i64, 1, 8, [.int 0]⟩ rfl).info
  have hmul := Any.bits_Mul lmul 1 3 (by decide) (by decide)
  rw [show lmul_ren.f 212 = 94 from rfl] at hmul
  have e94 : ∀ args w, (callFunc 94 args).run Try.prog w = .ok (.enter 94 args) w := enters_of Try.func94 (by kernel_rfl) rfl
  have hinfo : (Try.prog.info? 3).map (·.size) = some 1 := by rw [show Try.prog.info? 3 = some f from hf1]; simp [hf2]
  have hone1 : ∀ v ∈ [Value.int .i64 x], v.oneCell' = true := fun v hv => by rw [List.mem_singleton.1 hv]; rfl
  have hsrc0 := rep_src hb hc
  have hmk : ∀ W : World, (Instr.makeSlice 26 (.int .i64 3) (.int .i64 3)).run Try.prog W = .ok (.slice (some ⟨W.heap.size, 0, none⟩) 3 3) (W.alloc (.cells #[Value.int .i64 0, Value.int .i64 0, Value.int .i64 0] 3)) := fun W => by
    have h := run_make (P := Try.prog) W 26 3 f zv Try.underlying26 hf1 hf4 .i64 .i64 3 3 (by decide) (by decide) (by rw [hf3]; decide) (by decide)
    rw [h]
    have e : zv.cells = #[.int .i64 0] := Array.toList_inj.1 hf5
    rw [e, hf2, show madeCells #[Value.int .i64 0] (Int.toNat 3 * 1) = (List.replicate 3 (Value.int .i64 0)).toArray from ?_]
    · rfl
    · apply Array.ext
      · rw [size_madeCells]; rfl
      · intro i h1 h2
        have e2 : (List.replicate 3 (Value.int .i64 0)).toArray[i] = Value.int .i64 0 := by rw [List.getElem_toArray, List.getElem_replicate]
        rw [e2]; simp [madeCells, Nat.mod_one]
  go_enter Try.func44, Try.ntmps44
  go_wp2_with (first | (go_at_fn 94; refine (hmul _).mono ?_; rintro e w' ⟨rfl, hw⟩; rw [hw]) | (refine wpList_copy_splice rfl _ _ 26 26 rfl 3 Try.underlying26 hinfo _ _ _ _ _ _ rfl rfl w.heap.size 0 [Value.int .i64 0, Value.int .i64 0, Value.int .i64 0] 3 (heap_alloc_new w _) [Value.int .i64 x] rfl (fun _ => ⟨rfl, _, rfl, hsrc0 _⟩) (by exact Nat.le_of_ble_eq_true rfl) hone1 w.heap.size w ((Below.refl _ w).alloc (Nat.le_refl _) _) (Nat.le_refl _) ?_; intro w1 hg1 hb1))
  refine wp_loop_3 ?_
  go_wp2
  go_region_law? (refine step_copy_splice rfl (.tmp 41) (.tmp 44) 26 26 rfl 3 Try.underlying26 hinfo _ _ 2 2 1 3 (by simp [Act.eval, Act.put]) (by simp [Act.eval, Act.put]) w.heap.size 1 [Value.int .i64 x, Value.int .i64 0, Value.int .i64 0] 3 hg1.out [Value.int .i64 x] rfl (fun _ => ⟨rfl, _, rfl, rep_own hg1.out (by intro j v hj; match j, hj with | 0, hj => exact hj)⟩) (by exact Nat.le_of_ble_eq_true rfl) (rep_one 1) w.heap.size w hb1.drew (Nat.le_refl _) ?_; intro w2 hg2 hb2)
  go_wp2
  go_region_law? (refine step_copy_splice rfl (.tmp 41) (.tmp 44) 26 26 rfl 3 Try.underlying26 hinfo _ _ 1 1 2 3 (by simp [Act.eval, Act.put]) (by simp [Act.eval, Act.put]) w.heap.size 2 [Value.int .i64 x, Value.int .i64 x, Value.int .i64 0] 3 hg2.out [Value.int .i64 x] rfl (fun _ => ⟨rfl, _, rfl, rep_own hg2.out (by intro j v hj; match j, hj with | 0, hj => exact hj)⟩) (by exact Nat.le_of_ble_eq_true rfl) (rep_one 1) w.heap.size w hb2.drew (Nat.le_refl _) ?_; intro w3 hg3 hb3)
  go_wp2
  go_ret
  exact ⟨rfl, hg3.out, hb3⟩
theorem rep4 (x : Int) (b off cap : Nat) (w : World) (hb : b < w.heap.size) (hc : w.cell? ⟨b, off, none⟩ = some (.int .i64 x)) :
    Calls Try.prog 44 #[.slice (some ⟨b, off, none⟩) 1 cap, .int .i64 4] w fun e w' => e = .returned (.slice (some ⟨w.heap.size, 0, none⟩) 4 4) ∧ w'.heap[w.heap.size]? = some (.cells (List.replicate 4 (Value.int .i64 x)).toArray 3 (0, 0)) ∧ Below w.heap.size w w' := by
  obtain ⟨f, zv, hf1, hf2, hf3, hf4, hf5, hf6, hf7⟩ := (Sy.ok 3 ⟨.int .i64, 1, 8, [.int 0]⟩ rfl).info
  have hmul := Any.bits_Mul lmul 1 4 (by decide) (by decide)
  rw [show lmul_ren.f 212 = 94 from rfl] at hmul
  have e94 : ∀ args w, (callFunc 94 args).run Try.prog w = .ok (.enter 94 args) w := enters_of Try.func94 (by kernel_rfl) rfl
  have hinfo : (Try.prog.info? 3).map (·.size) = some 1 := by rw [show Try.prog.info? 3 = some f from hf1]; simp [hf2]
  have hone1 : ∀ v ∈ [Value.int .i64 x], v.oneCell' = true := fun v hv => by rw [List.mem_singleton.1 hv]; rfl
  have hsrc0 := rep_src hb hc
  have hmk : ∀ W : World, (Instr.makeSlice 26 (.int .i64 4) (.int .i64 4)).run Try.prog W = .ok (.slice (some ⟨W.heap.size, 0, none⟩) 4 4) (W.alloc (.cells #[Value.int .i64 0, Value.int .i64 0, Value.int .i64 0, Value.int .i64 0] 3)) := fun W => by
    have h := run_make (P := Try.prog) W 26 3 f zv Try.underlying26 hf1 hf4 .i64 .i64 4 4 (by decide) (by decide) (by rw [hf3]; decide) (by decide)
    rw [h]
    have e : zv.cells = #[.int .i64 0] := Array.toList_inj.1 hf5
    rw [e, hf2, show madeCells #[Value.int .i64 0] (Int.toNat 4 * 1) = (List.replicate 4 (Value.int .i64 0)).toArray from ?_]
    · rfl
    · apply Array.ext
      · rw [size_madeCells]; rfl
      · intro i h1 h2
        have e2 : (List.replicate 4 (Value.int .i64 0)).toArray[i] = Value.int .i64 0 := by rw [List.getElem_toArray, List.getElem_replicate]
        rw [e2]; simp [madeCells, Nat.mod_one]
  go_enter Try.func44, Try.ntmps44
  go_wp2_with (first | (go_at_fn 94; refine (hmul _).mono ?_; rintro e w' ⟨rfl, hw⟩; rw [hw]) | (refine wpList_copy_splice rfl _ _ 26 26 rfl 3 Try.underlying26 hinfo _ _ _ _ _ _ rfl rfl w.heap.size 0 [Value.int .i64 0, Value.int .i64 0, Value.int .i64 0, Value.int .i64 0] 3 (heap_alloc_new w _) [Value.int .i64 x] rfl (fun _ => ⟨rfl, _, rfl, hsrc0 _⟩) (by exact Nat.le_of_ble_eq_true rfl) hone1 w.heap.size w ((Below.refl _ w).alloc (Nat.le_refl _) _) (Nat.le_refl _) ?_; intro w1 hg1 hb1))
  refine wp_loop_3 ?_
  go_wp2
  go_region_law? (refine step_copy_splice rfl (.tmp 41) (.tmp 44) 26 26 rfl 3 Try.underlying26 hinfo _ _ 3 3 1 4 (by simp [Act.eval, Act.put]) (by simp [Act.eval, Act.put]) w.heap.size 1 [Value.int .i64 x, Value.int .i64 0, Value.int .i64 0, Value.int .i64 0] 3 hg1.out [Value.int .i64 x] rfl (fun _ => ⟨rfl, _, rfl, rep_own hg1.out (by intro j v hj; match j, hj with | 0, hj => exact hj)⟩) (by exact Nat.le_of_ble_eq_true rfl) (rep_one 1) w.heap.size w hb1.drew (Nat.le_refl _) ?_; intro w2 hg2 hb2)
  go_wp2
  go_region_law? (refine step_copy_splice rfl (.tmp 41) (.tmp 44) 26 26 rfl 3 Try.underlying26 hinfo _ _ 2 2 2 4 (by simp [Act.eval, Act.put]) (by simp [Act.eval, Act.put]) w.heap.size 2 [Value.int .i64 x, Value.int .i64 x, Value.int .i64 0, Value.int .i64 0] 3 hg2.out [Value.int .i64 x, Value.int .i64 x] rfl (fun _ => ⟨rfl, _, rfl, rep_own hg2.out (by intro j v hj; match j, hj with | 0, hj => exact hj | 1, hj => exact hj)⟩) (by exact Nat.le_of_ble_eq_true rfl) (rep_one 2) w.heap.size w hb2.drew (Nat.le_refl _) ?_; intro w3 hg3 hb3)
  go_wp2
  go_ret
  exact ⟨rfl, hg3.out, hb3⟩
theorem repeat_spec (x : Int) (m : Nat) (h1 : 1 ≤ m) (h2 : m ≤ 4) : FnSpec Sy.P 44 [.sl false 1 (([x]).map .int), .int m] [.sl false 1 (([x]).map .int), .int m] (.sl true 1 ((List.replicate m x).map .int)) := by
  refine ⟨⟨_, Try.func44, rfl, rfl⟩, fun w L vs hvs hpre hargs => ?_⟩
  match vs, hvs with
  | [v0, v1], _ =>
  have r0 := hargs 0 _ v0 rfl rfl
  have r1 := hargs 1 _ v1 rfl rfl
  cases r1
  obtain ⟨b, off, cap, rfl, hLb, hb, hcell⟩ := sh_row (l := [x]) r0 (by simp)
  have hc := hcell 0 (by simp)
  have hcon : Calls Try.prog 44 #[.slice (some ⟨b, off, none⟩) 1 cap, .int .i64 m] w fun e w' => e = .returned (.slice (some ⟨w.heap.size, 0, none⟩) m m) ∧ w'.heap[w.heap.size]? = some (.cells (List.replicate m (Value.int .i64 x)).toArray 3 (0, 0)) ∧ Below w.heap.size w w' := by
    obtain rfl | rfl | rfl | rfl : m = 1 ∨ m = 2 ∨ m = 3 ∨ m = 4 := by omega
    · exact rep1 x b off cap w hb hc
    · exact rep2 x b off cap w hb hc
    · exact rep3 x b off cap w hb hc
    · exact rep4 x b off cap w hb hc
  refine hcon.mono fun e w' ⟨he, hnb, hbel⟩ => ?_
  have hws : w.heap.size < w'.heap.size := (Array.getElem?_eq_some_iff.1 hnb).1
  have hwk : ∀ b, b < w.heap.size → w'.heap[b]? = w.heap[b]? := hbel.block
  obtain ⟨L', hL'⟩ : ∃ L' : Nat → Lab, L' = fun b' => if b' = w.heap.size then .my [2] else L b' := ⟨_, rfl⟩
  have l1 : L' w.heap.size = .my [2] := by rw [hL']; simp
  have l2 : ∀ b', b' ≠ w.heap.size → L' b' = L b' := fun b' h => by rw [hL']; simp [h]
  clear hL'
  have hpre' : Pre 2 L w := hpre
  have lno : ∀ b', L b' ≠ .my [2] := fun b' h => by obtain ⟨i, q, e1, e2⟩ := hpre'.head b' _ h; cases e1; omega
  have lt' : ∀ b' p, L' b' = .my p → b' < w'.heap.size := fun b' p hp => by
    by_cases e : b' = w.heap.size
    · omega
    · rw [l2 b' e] at hp; have := hpre'.lt b' p hp; omega
  refine ⟨_, L', he, ⟨hbel.os, hbel.tape, hbel.output, by omega, fun b hb _ => hwk b hb⟩, ⟨lt', fun b1 b2 p h1 h2 => ?_, fun b' p hp e => ?_, fun b' p hlt hp => ?_, fun b' hlt => ?_, fun b' h1 h2 => ?_⟩, fun b' p hp => ?_, fun i y u hy hu => ?_, ?_⟩
  · by_cases e1 : b1 = w.heap.size
    · subst e1
      rw [l1] at h1; cases h1
      by_cases e2 : b2 = w.heap.size
      · exact e2.symm
      · rw [l2 b2 e2] at h2; exact absurd h2 (lno b2)
    · rw [l2 b1 e1] at h1
      by_cases e2 : b2 = w.heap.size
      · subst e2
        rw [l1] at h2; cases h2
        exact absurd h1 (lno b1)
      · rw [l2 b2 e2] at h2; exact hpre'.inj b1 b2 p h1 h2
  · subst e
    by_cases e : b' = w.heap.size
    · subst e; rw [l1] at hp; cases hp
    · rw [l2 b' e] at hp; obtain ⟨i, q, h, _⟩ := hpre'.head b' [] hp; cases h
  · rw [l2 b' (by omega)] at hp; exact ⟨p, hp⟩
  · rw [l2 b' (by omega)]
  · by_cases e : b' = w.heap.size
    · subst e; rw [l1] at h2; cases h2
    · rw [l2 b' e] at h2; exact hpre'.new b' h1 h2
  · by_cases e : b' = w.heap.size
    · subst e; rw [l1] at hp; cases hp; exact ⟨2, [], rfl, Nat.le_refl _⟩
    · rw [l2 b' e] at hp; obtain ⟨i, q, h, h2⟩ := hpre'.head b' p hp; exact ⟨i, q, h, Nat.le_of_lt h2⟩
  · match i with
    | 0 =>
      simp only [List.getElem?_cons_zero, Option.some.injEq] at hy hu
      subst hy; subst hu
      refine Rep.frame (by omega) hbel.os hbel.tape hbel.output (fun b' hs hlt => ⟨by rw [l2 b' (by omega)]; exact hs, hwk b' hlt⟩) r0 _ fun p hp => ⟨p, hp, fun b' q hq => ?_⟩
      cases hp
      have hlt := hpre'.lt b' _ hq
      exact ⟨by rw [l2 b' (by omega)]; exact hq, hwk b' hlt⟩
    | 1 =>
      simp only [List.getElem?_cons_succ, List.getElem?_cons_zero, Option.some.injEq] at hy hu
      subst hy; subst hu; exact .int
    | i + 2 => simp at hy
  · have hf : flat ((List.replicate m x).map AV.int) = (List.replicate m x).map AV.int := flat_single (fun y hy => by obtain ⟨z, _, rfl⟩ := List.mem_map.1 hy; rfl)
    have := Rep.slO (L := L') (w := w') (p := [2]) (c := 1) (xs := (List.replicate m x).map AV.int) (cap := m) (fun o => .int .i64 x) l1 hnb (by simp) (by simp) (fun y hy => by obtain ⟨z, _, rfl⟩ := List.mem_map.1 hy; rfl) (fun o ho => by
      have ho' : o < m := by simpa using ho
      simp [ho']) (fun o y hy => by
      rw [hf, List.getElem?_map] at hy
      by_cases ho : o < m
      · simp [ho] at hy; subst hy; exact .int
      · simp [ho] at hy)
    simpa using this
end Go.Proofs.Ytohgcgedbhlnfaa
