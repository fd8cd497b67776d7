/- slices.Delete of one offer: walked. -/
import Derived.Test.YtmndhhobdakpgaaDoorHp
import Derived.Test.YtmndhhobdakpgaaDoorHm
import Derived.Test.YtmndhhobdakpgaaDoorCm
import Derived.Deep.RegionLaw
import Derived.Lib.SliceRun
import Derived.Shelf.SlicesE.Kit
import Derived.Shelf.Spec.SlicesInsert
namespace Go.Proofs.YtmndhhobdakpgaaDoor
open Go FM Go.Proofs Go.RowKit Go.Lib Go.Shelf
set_option linter.all false
set_option maxHeartbeats 4000000
set_option maxRecDepth 100000
theorem delR (b cap k n : Nat) (cs : List Value) (w : World) (arr : Array Value) (eb : TypeId) (hn : n ≤ 1000) (hk : k < n) (hcap : n ≤ cap)
    (hcl : cs.length = n * 6) (hb : w.heap[b]? = some (.cells arr eb (0, 0))) (ha : arr.size = cap * 6) (hcs : ∀ (j : Nat) v, cs[j]? = some v → arr[j]? = some v) (h1c : ∀ v ∈ cs, v.oneCell' = true) :
    Calls Tryd.prog 33 #[.slice (some ⟨b, 0, none⟩) n cap, .int .i64 k, .int .i64 ((k + 1 : Nat) : Int)] w fun e w' =>
      ∃ zs : List Value, zs.length = 6 ∧ e = .returned (.slice (some ⟨b, 0, none⟩) (n - 1) cap) ∧ w' = (w.drew.setCells b (k * 6) (cs.drop ((k + 1) * 6))).setCells b ((n - 1) * 6) zs := by
  obtain ⟨f0, zv, hf1, hf2, hf3, hf4, hf5, hf6, hf7⟩ := (Sy.ok 24 ⟨.struct [(0, 9), (1, 9), (2, 3), (3, 3), (4, 3), (5, 3)], 6, 64, [.str [], .str [], .int 0, .int 0, .int 0, .int 0]⟩ rfl).info
  have hf1' : Tryd.prog.info? 24 = some f0 := hf1
  have hf2' : f0.size = 6 := hf2
  have hz6 : zv.cells.size = 6 := hf7
  obtain ⟨zc, rfl⟩ : ∃ zc, zv = .agg zc := by
    cases zv <;> first | exact ⟨_, rfl⟩ | (simp [Value.cells] at hz6)
  obtain ⟨zs, hzs⟩ : ∃ zs, zs = (Builtin.zeroCells zc 1).toList := ⟨_, rfl⟩
  have hzl : zs.length = 6 := by rw [hzs, Array.length_toList, size_zeroCells, show zc.size = 6 from hz6]
  have hz1 : ∀ v ∈ zs, v.oneCell' = true := fun v hv => by
    have hz : ∀ v ∈ zc.toList, v.oneCell' = true := fun v hv => by
      rw [show zc.toList = _ from hf5] at hv
      exact List.all_eq_true.1 (show ((([.str [], .str [], .int 0, .int 0, .int 0, .int 0] : List AV).map AV.toV).all fun v => v.oneCell') = true from rfl) v hv
    rw [hzs] at hv
    unfold Builtin.zeroCells at hv
    rw [Array.toList_map, List.mem_map] at hv
    obtain ⟨i, _, rfl⟩ := hv
    have hz0 : zc.size = 6 := hz6
    have hlt : i % zc.size < zc.size := Nat.mod_lt _ (by omega)
    rw [getElem!_pos zc _ hlt]
    exact hz _ (Array.getElem_mem_toList _)
  have hzr : ∀ W : World, (zeroValue 24).run Tryd.prog W = .ok (.agg zc) W := fun W => by simp [zeroValue, typeInfo, hf1', hf4]
  obtain ⟨j, hj⟩ : ∃ j, j = k + 1 := ⟨_, rfl⟩
  rw [← hj]
  have hcell : ∀ t v, cs[t]? = some v → w.cell? ⟨b, t, none⟩ = some v := fun t v h => by rw [cell_of_row w b t arr eb (0, 0) hb]; exact hcs t v h
  have hfb : ∀ j, w.frozen? ⟨b, j, none⟩ = false := fun j => by simp only [World.frozen?, hb]; simp
  have hsp : ∀ j, j < n * 6 → (w.cell? ⟨b, j, none⟩).isSome = true := fun j hj => by
    rw [cell_of_row w b j arr eb (0, 0) hb, Array.getElem?_eq_getElem (by omega)]; rfl
  obtain ⟨news, hnews⟩ : ∃ news, news = cs.drop (j * 6) := ⟨_, rfl⟩
  have hlen : news.length = (n - j) * 6 := by rw [hnews, List.length_drop, hcl]; omega
  obtain ⟨A, hA, hsrc⟩ : ∃ A : Addr, (if cap = j then some (⟨b, 0, none⟩ : Addr) else some ⟨b, j * 6, none⟩) = some A ∧ Hid (∀ (t : Nat) u, news[t]? = some u → w.drew.cell? (A.add t) = some u) := by
    by_cases h : cap = j
    · refine ⟨⟨b, 0, none⟩, by simp [h], fun t u hu => ?_⟩
      have h0 : news.length = 0 := by rw [hlen]; omega
      rw [List.length_eq_zero_iff.1 h0] at hu
      simp at hu
    · refine ⟨⟨b, j * 6, none⟩, by simp [h], fun t u hu => ?_⟩
      rw [addr_add]
      rw [hnews, List.getElem?_drop] at hu
      exact hcell _ _ hu
  have s1 : Hid (news.length = (n - j) * 6) := hlen
  have s2 : Hid (∀ u ∈ news, u.oneCell' = true) := fun u hu => by rw [hnews] at hu; exact h1c u (List.mem_of_mem_drop hu)
  have s3 : Hid (∀ t, t < news.length → (w.drew.cell? ⟨b, 0 + k * 6 + t, none⟩).isSome = true ∧ w.drew.frozen? ⟨b, 0 + k * 6 + t, none⟩ = false) := by
    intro t ht
    rw [hlen] at ht
    exact ⟨hsp _ (by omega), hfb _⟩
  obtain ⟨W1, hW1⟩ : ∃ W1, W1 = w.drew.setCells b (0 + k * 6) news := ⟨_, rfl⟩
  obtain ⟨A1, hA1, hA1s, _⟩ := setCells_row b eb news (0 + k * 6) w.drew arr hb (by rw [hlen]; omega)
  rw [← hW1] at hA1
  have hsp1 : Hid (∀ t, t < 6 → (W1.cell? ⟨b, (k + (n - j)) * 6 + t, none⟩).isSome = true ∧ W1.frozen? ⟨b, (k + (n - j)) * 6 + t, none⟩ = false) := fun t ht => ⟨by rw [cell_of_row W1 b _ A1 eb (0, 0) hA1, Array.getElem?_eq_getElem (by omega)]; rfl, by simp only [World.frozen?, hA1]; simp⟩
  have hcl : ∀ ty, (Builtin.clear_ #[22] ty #[.slice (some ⟨b, (k + (n - j)) * 6, none⟩) (n - (k + (n - j))) (cap - (k + (n - j)))]).run Tryd.prog W1 = .ok (.tuple #[]) (W1.setCells b ((k + (n - j)) * 6) zs) := fun ty => by
    have hst := run_storeCells_cells (P := Tryd.prog) b ((k + (n - j)) * 6) zs 0 W1 (fun t ht => by rw [hzl] at ht; exact (hsp1 t ht).1) (fun t ht => by rw [hzl] at ht; exact (hsp1 t ht).2) hz1
    rw [show n - (k + (n - j)) = 0 + 1 by omega]
    simp only [Nat.add_zero] at hst
    simp [Builtin.clear_, run_underlying Tryd.underlying22, hzr, Value.cells, ← hzs, hst]
  have hW : Hid (W1 = w.drew.setCells b (0 + k * 6) news) := hW1
  have X : Aside (zs = (Builtin.zeroCells zc 1).toList ∧ zs.length = 6 ∧ k + (n - j) = n - 1 ∧ W1 = w.drew.setCells b (k * 6) (cs.drop (j * 6)))   := ⟨hzs, hzl, by omega, by rw [hW1, hnews, Nat.zero_add]⟩
  have hic : k ≤ cap := by omega
  have hjc : j ≤ cap := by omega
  have hkj : k ≤ j := by omega
  have hjn : j ≤ n := by omega
  have hne : ¬ k = j := by omega
  have hcn : ¬ cap = k + (n - j) := by omega
  clear hW1 hA1 hnews hlen hj hcs hb hcell hzs hzr hf4 hf5
  go_enter Tryd.func33, Tryd.ntmps33
  go_wp2_with fail
  go_region_law (refine step_append_room rfl (.tmp 22) (.tmp 25) 22 rfl 24 f0 6 Tryd.underlying22 hf1' hf2' b 0 k cap (by simp [Act.eval, Act.put]) A (n - j) (cap - j) news (by simp [Act.eval, Act.put]) s1.out hsrc.out s2.out (by omega) s3.out ?_; rw [← hW.out])
  go_wp2
  go_ret
  exact ⟨zs, X.out.2.1, by rw [X.out.2.2.1]; rfl, by rw [← X.out.2.2.2, X.out.2.2.1, X.out.1]⟩
theorem outD {w : World} {b cap k n : Nat} {cs zs : List Value} {arr : Array Value} {eb : TypeId} (hk : k < n) (hcap : n ≤ cap) (hcl : cs.length = n * 6) (hzl : zs.length = 6) (hb : w.heap[b]? = some (.cells arr eb (0, 0))) (ha : arr.size = cap * 6)
    (hcs : ∀ (j : Nat) v, cs[j]? = some v → arr[j]? = some v) : RowOut w b (n - 1) 6 (cs.take (k * 6) ++ cs.drop ((k + 1) * 6)) (.slice (some ⟨b, 0, none⟩) (n - 1) cap) ((w.drew.setCells b (k * 6) (cs.drop ((k + 1) * 6))).setCells b ((n - 1) * 6) zs) := by
  have hdl : (cs.drop ((k + 1) * 6)).length = (n - (k + 1)) * 6 := by rw [List.length_drop, hcl]; omega
  have htl : (cs.take (k * 6)).length = k * 6 := by rw [List.length_take, hcl]; omega
  obtain ⟨A1, hA1, s1, g1⟩ := setCells_row b eb (cs.drop ((k + 1) * 6)) (k * 6) w.drew arr hb (by rw [hdl]; omega)
  obtain ⟨k1, z1, o1, t1, u1⟩ := setCells_keep b (cs.drop ((k + 1) * 6)) (k * 6) w.drew
  generalize w.drew.setCells b (k * 6) (cs.drop ((k + 1) * 6)) = W1 at *
  obtain ⟨A2, hA2, s2, g2⟩ := setCells_row b eb zs ((n - 1) * 6) W1 A1 hA1 (by rw [hzl]; omega)
  obtain ⟨k2, z2, o2, t2, u2⟩ := setCells_keep b zs ((n - 1) * 6) W1
  refine ⟨b, cap, A2, eb, rfl, .inl rfl, by omega, by rw [s2, s1, ha], hA2, fun j u hj => ?_, by rw [z2, z1]; exact Nat.le_refl _, fun k hk _ => (k2 k hk).trans (k1 k hk), o2.trans o1, t2.trans t1, u2.trans u1⟩
  rw [g2, g1, hzl, hdl]
  by_cases c1 : j < k * 6
  · rw [List.getElem?_append_left (by omega), List.getElem?_take, if_pos c1] at hj
    rw [if_neg (by omega), if_neg (by omega)]
    exact hcs j u hj
  · rw [List.getElem?_append_right (by omega), htl] at hj
    have hlt := (List.getElem?_eq_some_iff.1 hj).1
    rw [hdl] at hlt
    rw [if_neg (by omega), if_pos (by omega)]; exact hj
theorem dl_simp {l : List Dl} : ∀ y ∈ flat (l.map dlA), simp1 y = true := fun y hy => by
  unfold flat at hy
  rw [List.mem_flatMap] at hy
  obtain ⟨x, hx, hy⟩ := hy
  obtain ⟨z, _, rfl⟩ := List.mem_map.1 hx
  simp only [AV.cells, List.mem_cons, List.mem_nil_iff, or_false] at hy
  rcases hy with rfl | rfl | rfl | rfl | rfl | rfl <;> rfl
theorem dl6 {l : List Dl} : ∀ x ∈ l.map dlA, x.cells.length = 6 := fun x hx => by obtain ⟨z, _, rfl⟩ := List.mem_map.1 hx; rfl
theorem noSh_dls {l : List Dl} : NoSh (.sl true 6 (l.map dlA)) := .sl fun y hy => by obtain ⟨z, _, rfl⟩ := List.mem_map.1 hy; exact noSh_aggL rfl
/-- The deletion of one element. -/
theorem delDJ {m : Nat} {v : Nat → Value} {N : Nat} {σ : St} {l : List Dl} {k : Nat} {t1 t2 t3 s d ty : Nat} {ops : Array Oper} {kk : List Oper} {K : St → Prop} {ts : Array Nat} {pos : String} {aft : Array Edge} {g : Option (Nat × Bool)} (hg : live ops g σ = some true)
    (h1 : slotAt σ (.tmp t1) = some s) (h2 : FM.get σ s = .av (.sl true 6 (l.map dlA))) (hk : k < l.length) (hl : l.length ≤ 1000) (h3 : Nat.beq s d = false) (ht2 : FM.get σ t2 = .av (.int k)) (ht3 : FM.get σ t3 = .av (.int ((k : Int) + 1)))
    (h : J false (Sy.fixed m v) N ops kk K (putM [(s, 0)] [.dead, .dead, .dead] (σ.put d (.av (.sl true 6 ((l.take k ++ l.drop (k + 1)).map dlA)))))) :
    J false (Sy.fixed m v) N ops (⟨some d, .call ⟨.value (.func 33), #[.tmp t1, .tmp t2, .tmp t3], ts⟩, ty, pos, aft, g⟩ :: kk) K σ := by
  refine J.callMP (xs := [.tmp t2, .tmp t3]) (op := .tmp t1) (⟨_, Tryd.func33, rfl, rfl⟩ : FnOk Sy.P 33) rfl hg h1 h2 h3 (fun w0 L0 a w L hR hpre hrep => ?_) noSh_dls ⟨.dead, rfl, .dead⟩ h
  have hne : l.map dlA ≠ [] := by intro e; rw [List.map_eq_nil_iff] at e; subst e; simp at hk
  obtain ⟨b, cap, arr, eb, hv, hLb, hb, hcap, ha, _, hcs⟩ := own_row hrep hne dl_simp
  rw [List.length_map] at hv hcap
  have hf2 := hR.hold t2 (own_lt hR ht2 (by simp))
  have hf3 := hR.hold t3 (own_lt hR ht3 (by simp))
  rw [ht2] at hf2
  rw [ht3] at hf3
  simp only [Hold] at hf2 hf3
  have he2 : a.eval (.tmp t2) = .int .i64 k := by
    generalize hz : a.tmps.getD t2 undef = z at hf2
    have : a.eval (.tmp t2) = z := hz
    rw [this]; cases hf2; rfl
  have he3 : a.eval (.tmp t3) = .int .i64 ((k + 1 : Nat) : Int) := by
    generalize hz : a.tmps.getD t3 undef = z at hf3
    have : a.eval (.tmp t3) = z := hz
    rw [this, show ((k + 1 : Nat) : Int) = (k : Int) + 1 by omega]; cases hf3; rfl
  have hcl : ((flat (l.map dlA)).map AV.toV).length = l.length * 6 := by rw [List.length_map, flat_length dl6, List.length_map]
  have hnews : (flat ((l.take k ++ l.drop (k + 1)).map dlA)).map AV.toV = ((flat (l.map dlA)).map AV.toV).take (k * 6) ++ ((flat (l.map dlA)).map AV.toV).drop ((k + 1) * 6) := by
    rw [← List.map_take, ← List.map_drop, ← flat_take dl6, ← flat_drop dl6, ← List.map_append, ← flat_append, ← List.map_take, ← List.map_drop, ← List.map_append]
  simp only [List.map_cons, List.map_nil, hv, he2, he3]
  refine (delR b cap k l.length _ w arr eb hl hk hcap hcl hb ha hcs (flat_cells dl_simp)).mono fun e w' ⟨zs, hzl, he, hw⟩ => ?_
  subst hw
  have hro := outD hk hcap hcl hzl hb ha hcs
  rw [← hnews] at hro
  obtain ⟨L', hB⟩ := back_out (N := 3) (as' := [.dead, .dead, .dead]) (vs := [.slice (some ⟨b, 0, none⟩) l.length cap, .int .i64 k, .int .i64 ((k + 1 : Nat) : Int)]) hpre hLb (by omega) rfl hro (by rw [List.length_map, List.length_append, List.length_take, List.length_drop]; omega) dl6 (flat_news dl_simp) (fun i y hy => by
    match i, hy with
    | 0, hy => cases hy; rfl
    | 1, hy => cases hy; rfl
    | 2, hy => cases hy; rfl
    | i + 3, hy => simp at hy)
  exact ⟨_, L', he, hB⟩
end Go.Proofs.YtmndhhobdakpgaaDoor
