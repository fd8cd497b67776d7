/- slices.Delete of one offer: walked. -/
import Derived.Test.YtkkcnppgcnmikaaGreatDoorHpm
import Derived.Test.YtkkcnppgcnmikaaGreatDoorHnm
import Derived.Test.YtkkcnppgcnmikaaGreatDoorFsm
import Derived.Deep.RegionLaw
import Derived.Lib.SliceRun
import Derived.Shelf.SlicesE.Kit
import Derived.Shelf.Spec.SlicesInsert
import Derived.Test.YtkkcnppgcnmikaaGreatDoorHhm
namespace Go.Proofs.YtkkcnppgcnmikaaGreatDoor
open Go FM Go.Proofs Go.RowKit Go.Lib Go.Shelf
set_option linter.all false
set_option maxHeartbeats 4000000
set_option maxRecDepth 100000
theorem delR (b cap k n : Nat) (cs : List Value) (w : World) (arr : Array Value) (eb : TypeId) (hn : n ≤ 1000) (hk : k < n) (hcap : n ≤ cap)
    (hcl : cs.length = n * 6) (hb : w.heap[b]? = some (.cells arr eb (0, 0))) (ha : arr.size = cap * 6) (hcs : ∀ (j : Nat) v, cs[j]? = some v → arr[j]? = some v) (h1c : ∀ v ∈ cs, v.oneCell' = true) :
    Calls Tryz.prog 76 #[.slice (some ⟨b, 0, none⟩) n cap, .int .i64 k, .int .i64 ((k + 1 : Nat) : Int)] w fun e w' =>
      ∃ zs : List Value, zs.length = 6 ∧ e = .returned (.slice (some ⟨b, 0, none⟩) (n - 1) cap) ∧ w' = (w.drew.setCells b (k * 6) (cs.drop ((k + 1) * 6))).setCells b ((n - 1) * 6) zs := by
  obtain ⟨f0, zv, hf1, hf2, hf3, hf4, hf5, hf6, hf7⟩ := (Sy.ok 32 ⟨.struct [(0, 9), (1, 9), (2, 3), (3, 3), (4, 3), (5, 3)], 6, 64, [.str [], .str [], .int 0, .int 0, .int 0, .int 0]⟩ rfl).info
  have hf1' : Tryz.prog.info? 32 = some f0 := hf1
  have hf2' : f0.size = 6 := hf2
  have hz6 : zv.cells.size = 6 := hf7
  obtain ⟨zc, rfl⟩ : ∃ zc, zv = .agg zc := by
    cases zv <;> first | exact ⟨_, rfl⟩ | (simp [Value.cells] at hz6)
  obtain ⟨zs, hzs⟩ : ∃ zs, zs = (Builtin.zeroCells zc 1).toList := ⟨_, rfl⟩
  have hzl : zs.length = 6 := by rw [hzs, Array.length_toList, size_zeroCells, show zc.size = 6 from hz6]
  have hz1 : ∀ v ∈ zs, v.oneCell' = true := fun v hv => by
    have hz : ∀ v ∈ zc.toList, v.oneCell' = true := fun v hv => by
      rw [show zc.toList = _ from hf5] at hv
      exact List.all_eq_true.1 (show ((([.str [], .str [], .int 0, .int 0, .int 0, .int 0] : List AV).map AV.toV).all fun v => v.oneCell') = true from rfl) v hv
    rw [hzs] at hv
    unfold Builtin.zeroCells at hv
    rw [Array.toList_map, List.mem_map] at hv
    obtain ⟨i, _, rfl⟩ := hv
    have hz0 : zc.size = 6 := hz6
    have hlt : i % zc.size < zc.size := Nat.mod_lt _ (by omega)
    rw [getElem!_pos zc _ hlt]
    exact hz _ (Array.getElem_mem_toList _)
  have hzr : ∀ W : World, (zeroValue 32).run Tryz.prog W = .ok (.agg zc) W := fun W => by simp [zeroValue, typeInfo, hf1', hf4]
  obtain ⟨j, hj⟩ : ∃ j, j = k + 1 := ⟨_, rfl⟩
  rw [← hj]
  have hcell : ∀ t v, cs[t]? = some v → w.cell? ⟨b, t, none⟩ = some v := fun t v h => by rw [cell_of_row w b t arr eb (0, 0) hb]; exact hcs t v h
  have hfb : ∀ j, w.frozen? ⟨b, j, none⟩ = false := fun j => by simp only [World.frozen?, hb]; simp
  have hsp : ∀ j, j < n * 6 → (w.cell? ⟨b, j, none⟩).isSome = true := fun j hj => by
    rw [cell_of_row w b j arr eb (0, 0) hb, Array.getElem?_eq_getElem (by omega)]; rfl
  obtain ⟨news, hnews⟩ : ∃ news, news = cs.drop (j * 6) := ⟨_, rfl⟩
  have hlen : news.length = (n - j) * 6 := by rw [hnews, List.length_drop, hcl]; omega
  obtain ⟨A, hA, hsrc⟩ : ∃ A : Addr, (if cap = j then some (⟨b, 0, none⟩ : Addr) else some ⟨b, j * 6, none⟩) = some A ∧ Hid (∀ (t : Nat) u, news[t]? = some u → w.drew.cell? (A.add t) = some u) := by
    by_cases h : cap = j
    · refine ⟨⟨b, 0, none⟩, by simp [h], fun t u hu => ?_⟩
      have h0 : news.length = 0 := by rw [hlen]; omega
      rw [List.length_eq_zero_iff.1 h0] at hu
      simp at hu
    · refine ⟨⟨b, j * 6, none⟩, by simp [h], fun t u hu => ?_⟩
      rw [addr_add]
      rw [hnews, List.getElem?_drop] at hu
      exact hcell _ _ hu
  have s1 : Hid (news.length = (n - j) * 6) := hlen
  have s2 : Hid (∀ u ∈ news, u.oneCell' = true) := fun u hu => by rw [hnews] at hu; exact h1c u (List.mem_of_mem_drop hu)
  have s3 : Hid (∀ t, t < news.length → (w.drew.cell? ⟨b, 0 + k * 6 + t, none⟩).isSome = true ∧ w.drew.frozen? ⟨b, 0 + k * 6 + t, none⟩ = false) := by
    intro t ht
    rw [hlen] at ht
    exact ⟨hsp _ (by omega), hfb _⟩
  obtain ⟨W1, hW1⟩ : ∃ W1, W1 = w.drew.setCells b (0 + k * 6) news := ⟨_, rfl⟩
  obtain ⟨A1, hA1, hA1s, _⟩ := setCells_row b eb news (0 + k * 6) w.drew arr hb (by rw [hlen]; omega)
  rw [← hW1] at hA1
  have hsp1 : Hid (∀ t, t < 6 → (W1.cell? ⟨b, (k + (n - j)) * 6 + t, none⟩).isSome = true ∧ W1.frozen? ⟨b, (k + (n - j)) * 6 + t, none⟩ = false) := fun t ht => ⟨by rw [cell_of_row W1 b _ A1 eb (0, 0) hA1, Array.getElem?_eq_getElem (by omega)]; rfl, by simp only [World.frozen?, hA1]; simp⟩
  have hcl : ∀ ty, (Builtin.clear_ #[26] ty #[.slice (some ⟨b, (k + (n - j)) * 6, none⟩) (n - (k + (n - j))) (cap - (k + (n - j)))]).run Tryz.prog W1 = .ok (.tuple #[]) (W1.setCells b ((k + (n - j)) * 6) zs) := fun ty => by
    have hst := run_storeCells_cells (P := Tryz.prog) b ((k + (n - j)) * 6) zs 0 W1 (fun t ht => by rw [hzl] at ht; exact (hsp1 t ht).1) (fun t ht => by rw [hzl] at ht; exact (hsp1 t ht).2) hz1
    rw [show n - (k + (n - j)) = 0 + 1 by omega]
    simp only [Nat.add_zero] at hst
    simp [Builtin.clear_, run_underlying Tryz.underlying26, hzr, Value.cells, ← hzs, hst]
  have hW : Hid (W1 = w.drew.setCells b (0 + k * 6) news) := hW1
  have X : Aside (zs = (Builtin.zeroCells zc 1).toList ∧ zs.length = 6 ∧ k + (n - j) = n - 1 ∧ W1 = w.drew.setCells b (k * 6) (cs.drop (j * 6)))   := ⟨hzs, hzl, by omega, by rw [hW1, hnews, Nat.zero_add]⟩
  have hic : k ≤ cap := by omega
  have hjc : j ≤ cap := by omega
  have hkj : k ≤ j := by omega
  have hjn : j ≤ n := by omega
  have hne : ¬ k = j := by omega
  have hcn : ¬ cap = k + (n - j) := by omega
  clear hW1 hA1 hnews hlen hj hcs hb hcell hzs hzr hf4 hf5
  go_enter Tryz.func76, Tryz.ntmps76
  go_wp2_with fail
  go_region_law (refine step_append_room rfl (.tmp 22) (.tmp 25) 26 rfl 32 f0 6 Tryz.underlying26 hf1' hf2' b 0 k cap (by simp [Act.eval, Act.put]) A (n - j) (cap - j) news (by simp [Act.eval, Act.put]) s1.out hsrc.out s2.out (by omega) s3.out ?_; rw [← hW.out])
  go_wp2
  go_ret
  exact ⟨zs, X.out.2.1, by rw [X.out.2.2.1]; rfl, by rw [← X.out.2.2.2, X.out.2.2.1, X.out.1]⟩
theorem outD {w : World} {b cap k n : Nat} {cs zs : List Value} {arr : Array Value} {eb : TypeId} (hk : k < n) (hcap : n ≤ cap) (hcl : cs.length = n * 6) (hzl : zs.length = 6) (hb : w.heap[b]? = some (.cells arr eb (0, 0))) (ha : arr.size = cap * 6)
    (hcs : ∀ (j : Nat) v, cs[j]? = some v → arr[j]? = some v) : RowOut w b (n - 1) 6 (cs.take (k * 6) ++ cs.drop ((k + 1) * 6)) (.slice (some ⟨b, 0, none⟩) (n - 1) cap) ((w.drew.setCells b (k * 6) (cs.drop ((k + 1) * 6))).setCells b ((n - 1) * 6) zs) := by
  have hdl : (cs.drop ((k + 1) * 6)).length = (n - (k + 1)) * 6 := by rw [List.length_drop, hcl]; omega
  have htl : (cs.take (k * 6)).length = k * 6 := by rw [List.length_take, hcl]; omega
  obtain ⟨A1, hA1, s1, g1⟩ := setCells_row b eb (cs.drop ((k + 1) * 6)) (k * 6) w.drew arr hb (by rw [hdl]; omega)
  obtain ⟨k1, z1, o1, t1, u1⟩ := setCells_keep b (cs.drop ((k + 1) * 6)) (k * 6) w.drew
  generalize w.drew.setCells b (k * 6) (cs.drop ((k + 1) * 6)) = W1 at *
  obtain ⟨A2, hA2, s2, g2⟩ := setCells_row b eb zs ((n - 1) * 6) W1 A1 hA1 (by rw [hzl]; omega)
  obtain ⟨k2, z2, o2, t2, u2⟩ := setCells_keep b zs ((n - 1) * 6) W1
  refine ⟨b, cap, A2, eb, rfl, .inl rfl, by omega, by rw [s2, s1, ha], hA2, fun j u hj => ?_, by rw [z2, z1]; exact Nat.le_refl _, fun k hk _ => (k2 k hk).trans (k1 k hk), o2.trans o1, t2.trans t1, u2.trans u1⟩
  rw [g2, g1, hzl, hdl]
  by_cases c1 : j < k * 6
  · rw [List.getElem?_append_left (by omega), List.getElem?_take, if_pos c1] at hj
    rw [if_neg (by omega), if_neg (by omega)]
    exact hcs j u hj
  · rw [List.getElem?_append_right (by omega), htl] at hj
    have hlt := (List.getElem?_eq_some_iff.1 hj).1
    rw [hdl] at hlt
    rw [if_neg (by omega), if_pos (by omega)]; exact hj
theorem dl_simp {l : List Dl} : ∀ y ∈ flat (l.map dlA), simp1 y = true := fun y hy => by
  unfold flat at hy
  rw [List.mem_flatMap] at hy
  obtain ⟨x, hx, hy⟩ := hy
  obtain ⟨z, _, rfl⟩ := List.mem_map.1 hx
  simp only [AV.cells, List.mem_cons, List.mem_nil_iff, or_false] at hy
  rcases hy with rfl | rfl | rfl | rfl | rfl | rfl <;> rfl
theorem dl6 {l : List Dl} : ∀ x ∈ l.map dlA, x.cells.length = 6 := fun x hx => by obtain ⟨z, _, rfl⟩ := List.mem_map.1 hx; rfl
theorem noSh_dls {l : List Dl} : NoSh (.sl true 6 (l.map dlA)) := .sl fun y hy => by obtain ⟨z, _, rfl⟩ := List.mem_map.1 hy; exact noSh_aggL rfl
/-- The deletion of one element. -/
theorem delDJ {m : Nat} {v : Nat → Value} {N : Nat} {σ : St} {l : List Dl} {k : Nat} {t1 t2 t3 s d ty : Nat} {ops : Array Oper} {kk : List Oper} {K : St → Prop} {ts : Array Nat} {pos : String} {aft : Array Edge} {g : Option (Nat × Bool)} (hg : live ops g σ = some true)
    (h1 : slotAt σ (.tmp t1) = some s) (h2 : FM.get σ s = .av (.sl true 6 (l.map dlA))) (hk : k < l.length) (hl : l.length ≤ 1000) (h3 : Nat.beq s d = false) (ht2 : FM.get σ t2 = .av (.int k)) (ht3 : FM.get σ t3 = .av (.int ((k : Int) + 1)))
    (h : J false (Sy.fixed m v) N ops kk K (putM [(s, 0)] [.dead, .dead, .dead] (σ.put d (.av (.sl true 6 ((l.take k ++ l.drop (k + 1)).map dlA)))))) :
    J false (Sy.fixed m v) N ops (⟨some d, .call ⟨.value (.func 76), #[.tmp t1, .tmp t2, .tmp t3], ts⟩, ty, pos, aft, g⟩ :: kk) K σ := by
  refine J.callMP (xs := [.tmp t2, .tmp t3]) (op := .tmp t1) (⟨_, Tryz.func76, rfl, rfl⟩ : FnOk Sy.P 76) rfl hg h1 h2 h3 (fun w0 L0 a w L hR hpre hrep => ?_) noSh_dls ⟨.dead, rfl, .dead⟩ h
  have hne : l.map dlA ≠ [] := by intro e; rw [List.map_eq_nil_iff] at e; subst e; simp at hk
  obtain ⟨b, cap, arr, eb, hv, hLb, hb, hcap, ha, _, hcs⟩ := own_row hrep hne dl_simp
  rw [List.length_map] at hv hcap
  have hf2 := hR.hold t2 (own_lt hR ht2 (by simp))
  have hf3 := hR.hold t3 (own_lt hR ht3 (by simp))
  rw [ht2] at hf2
  rw [ht3] at hf3
  simp only [Hold] at hf2 hf3
  have he2 : a.eval (.tmp t2) = .int .i64 k := by
    generalize hz : a.tmps.getD t2 undef = z at hf2
    have : a.eval (.tmp t2) = z := hz
    rw [this]; cases hf2; rfl
  have he3 : a.eval (.tmp t3) = .int .i64 ((k + 1 : Nat) : Int) := by
    generalize hz : a.tmps.getD t3 undef = z at hf3
    have : a.eval (.tmp t3) = z := hz
    rw [this, show ((k + 1 : Nat) : Int) = (k : Int) + 1 by omega]; cases hf3; rfl
  have hcl : ((flat (l.map dlA)).map AV.toV).length = l.length * 6 := by rw [List.length_map, flat_length dl6, List.length_map]
  have hnews : (flat ((l.take k ++ l.drop (k + 1)).map dlA)).map AV.toV = ((flat (l.map dlA)).map AV.toV).take (k * 6) ++ ((flat (l.map dlA)).map AV.toV).drop ((k + 1) * 6) := by
    rw [← List.map_take, ← List.map_drop, ← flat_take dl6, ← flat_drop dl6, ← List.map_append, ← flat_append, ← List.map_take, ← List.map_drop, ← List.map_append]
  simp only [List.map_cons, List.map_nil, hv, he2, he3]
  refine (delR b cap k l.length _ w arr eb hl hk hcap hcl hb ha hcs (flat_cells dl_simp)).mono fun e w' ⟨zs, hzl, he, hw⟩ => ?_
  subst hw
  have hro := outD hk hcap hcl hzl hb ha hcs
  rw [← hnews] at hro
  obtain ⟨L', hB⟩ := back_out (N := 3) (xs9' := [.dead, .dead, .dead]) (vs := [.slice (some ⟨b, 0, none⟩) l.length cap, .int .i64 k, .int .i64 ((k + 1 : Nat) : Int)]) hpre hLb (by omega) rfl hro (by rw [List.length_map, List.length_append, List.length_take, List.length_drop]; omega) dl6 (flat_news dl_simp) (fun i y hy => by
    match i, hy with
    | 0, hy => cases hy; rfl
    | 1, hy => cases hy; rfl
    | 2, hy => cases hy; rfl
    | i + 3, hy => simp at hy)
  exact ⟨_, L', he, hB⟩
end Go.Proofs.YtkkcnppgcnmikaaGreatDoor

/- slices.DeleteFunc of offers. -/
namespace Go.Proofs.YtkkcnppgcnmikaaGreatDoor
open Go FM Go.Proofs
set_option maxRecDepth 10000
set_option maxHeartbeats 3200000
set_option linter.all false
/-- How many of the first j are kept. -/
def cnt (p : Dl → Bool) (l : List Dl) (j : Nat) : Nat := ((l.take j).filter fun d => !p d).length
theorem cnt_le {p : Dl → Bool} {l : List Dl} {j : Nat} : cnt p l j ≤ j := by
  have h1 := List.length_filter_le (fun d => !p d) (l.take j)
  have h2 : (l.take j).length ≤ j := by rw [List.length_take]; exact Nat.min_le_left _ _
  unfold cnt; omega
theorem kept_succ {p : Dl → Bool} {l : List Dl} {j : Nat} (h : j < l.length) : ((l.take (j + 1)).filter fun d => !p d) = ((l.take j).filter fun d => !p d) ++ (if p l[j] then [] else [l[j]]) := by
  rw [List.take_succ_eq_append_getElem h, List.filter_append]
  congr 1
  cases hp : p l[j] <;> simp [hp]
structure Dst (p : Dl → Bool) (l : List Dl) (j : Nat) (X : List Dl) : Prop where
  le : j ≤ l.length
  len : X.length = l.length
  lt : cnt p l j < j
  low : X.take (cnt p l j) = (l.take j).filter fun d => !p d
  high : X.drop j = l.drop j
theorem Dst.skip {p : Dl → Bool} {l : List Dl} {j : Nat} {X : List Dl} (h : Dst p l j X) (hj : j < l.length) (hp : p l[j] = true) : cnt p l (j + 1) = cnt p l j ∧ Dst p l (j + 1) X := by
  have hk := kept_succ (p := p) hj
  rw [if_pos hp, List.append_nil] at hk
  have hc : cnt p l (j + 1) = cnt p l j := by unfold cnt; rw [hk]
  refine ⟨hc, hj, h.len, by rw [hc]; have := h.lt; omega, by rw [hc, hk]; exact h.low, ?_⟩
  have := congrArg (List.drop 1) h.high
  rwa [List.drop_drop, List.drop_drop] at this
theorem Dst.keep {p : Dl → Bool} {l : List Dl} {j : Nat} {X : List Dl} (h : Dst p l j X) (hj : j < l.length) (hp : p l[j] = false) : cnt p l (j + 1) = cnt p l j + 1 ∧ Dst p l (j + 1) (X.set (cnt p l j) l[j]) := by
  have hk := kept_succ (p := p) hj
  rw [if_neg (by rw [hp]; simp)] at hk
  have hc : cnt p l (j + 1) = cnt p l j + 1 := by unfold cnt; rw [hk]; simp
  have hlt := h.lt
  have hlen := h.len
  refine ⟨hc, hj, by rw [List.length_set]; exact h.len, by rw [hc]; omega, ?_, ?_⟩
  · rw [hc, hk, ← h.low, List.take_succ_eq_append_getElem (by rw [List.length_set]; omega), List.getElem_set_self, List.take_set_of_le (by omega)]
  · rw [List.drop_set_of_lt (by omega)]
    have := congrArg (List.drop 1) h.high
    rwa [List.drop_drop, List.drop_drop] at this
theorem Dst.get {p : Dl → Bool} {l : List Dl} {j : Nat} {X : List Dl} (h : Dst p l j X) (hj : j < l.length) : X[j]? = some l[j] := by
  have := congrArg (fun z : List Dl => z[0]?) h.high
  simp only [List.getElem?_drop, Nat.add_zero] at this
  rw [this, List.getElem?_eq_getElem hj]
theorem fidx_first {α : Type} {p : α → Bool} : ∀ {l : List α} {k : Nat}, 0 ≤ fidx p l k → ∃ i : Nat, ∃ (h : i < l.length), fidx p l k = ((k + i : Nat) : Int) ∧ p l[i] = true ∧ ∀ (j : Nat) (hj : j < i), p (l[j]'(by omega)) = false
  | [], k, h => by simp [fidx] at h
  | x :: r, k, h => by
    rw [fidx_cons] at h ⊢
    cases hp : p x with
    | true => exact ⟨0, by simp, by rw [cond_true]; rfl, hp, fun j hj => absurd hj (Nat.not_lt_zero _)⟩
    | false =>
      rw [hp, cond_false] at h
      obtain ⟨i, hi, e1, e2, e3⟩ := fidx_first h
      refine ⟨i + 1, by simpa using hi, ?_, e2, fun j hj => ?_⟩
      · rw [cond_false, e1, show k + 1 + i = k + (i + 1) by omega]
      · cases j with
        | zero => exact hp
        | succ j => exact e3 j (by omega)
theorem Dst.start {p : Dl → Bool} {l : List Dl} {i : Nat} (h : i < l.length) (hp : p l[i] = true) (ha : ∀ (j : Nat) (hj : j < i), p (l[j]'(by omega)) = false) : cnt p l (i + 1) = i ∧ Dst p l (i + 1) l := by
  have hf : ((l.take i).filter fun d => !p d) = l.take i := by
    rw [List.filter_eq_self]
    intro d hd
    obtain ⟨j, hj, rfl⟩ := List.mem_iff_getElem.1 hd
    rw [List.length_take] at hj
    rw [List.getElem_take, ha j (by omega)]; rfl
  have hk := kept_succ (p := p) h
  rw [if_pos hp, List.append_nil, hf] at hk
  have hc : cnt p l (i + 1) = i := by unfold cnt; rw [hk, List.length_take]; omega
  exact ⟨hc, h, rfl, by omega, by rw [hc, hk], rfl⟩
theorem le_of_eqA {x y : AV} (h : x = y) : AV.le x y := h ▸ .refl _
theorem delf_spec (l : List Dl) (D : Dl → Prop) (p : Dl → Bool) (hl : l.length ≤ 1000) (hD : ∀ x ∈ l, D x) : FnSpec Sy.P 127 [.sl true 6 (l.map dlA), fnDl D p] [.dead, fnDl D p] (.sl true 6 ((l.filter fun d => !p d).map dlA)) := by
  have hI := indexDl_spec l D p (by omega) hD
  refine FnSpec.enter (S := Sy) 1 Tryz.func127 rfl rfl rfl Tryz.ntmps127 rfl rfl rfl rfl fun v0 => ?_
  by_cases h0 : 0 ≤ fidx p l 0
  · obtain ⟨i, hi, e1, hp, ha⟩ := fidx_first h0
    obtain ⟨hc0, hS0⟩ := Dst.start hi hp ha
    rw [e1, Nat.zero_add] at hI
    (repeat' (first | refine w9x ?_ | refine w9p (hI) ?_ | (refine w9c ?_ ?_ <;> intro _ <;> try exact w9o) | (refine w9d ?_ ?_ <;> intro _ <;> try exact w9s) | (refine w9q ?_; intro bnil hbnil)))
    all_goals first | (exfalso; omega) | skip
    refine CW.loop (fun v : Nat × List Dl => [(0, .av (.sl true 6 (v.2.map dlA))), (1, .av (fnDl D p)), (5, .av (.int (cnt p l v.1))), (6, .av (.int (v.1)))]) (fun v => Dst p l v.1 v.2) (fun v => l.length - v.1) ((i + 1, l)) ?_ (by exact w9a) ?_
    · exact hS0
    rintro ⟨j, X⟩ hS
    dsimp only at hS ⊢
    have hle := hS.le
    have hXl := hS.len
    have hct := hS.lt
    by_cases hlt : j < l.length
    · have hx := hS.get hlt
      have hd : D l[j] := hD _ (List.getElem_mem hlt)
      have hres : (AV.bool (p (l[j].1, l[j].2.1, l[j].2.2.1, l[j].2.2.2.1, l[j].2.2.2.2.1, l[j].2.2.2.2.2.1, ()))) = .bool (p l[j]) := rfl
      cases hb : p l[j] with
      | true =>
        obtain ⟨c1, hS1⟩ := hS.skip hlt hb
        generalize cnt p l j = c at *
        obtain ⟨o, hci⟩ : ∃ o, X[c]? = some o := ⟨_, List.getElem?_eq_getElem (show c < X.length by omega)⟩
        rw [hb] at hres
        (repeat' (first | refine w9x ?_ | (refine J.callF [dlA l[j]] rfl rfl rfl ⟨_, rfl, hd⟩ (by (repeat' (first | exact ArgsOk.nil | apply ArgsOk.cons | exact ArgOk.pl rfl rfl | exact ArgOk.br rfl AV.noConfusion (by first | rfl | exact sh_int | exact sh_rows | exact sh_rowsO | exact sh_box | exact sh_map (fun _ => rfl))))) (by first | assumption | rfl | simp) rfl ?_) | (refine J.callFQ [dlA l[j]] rfl rfl rfl ⟨_, rfl, hd⟩ (by (repeat' (first | exact ArgsOk.nil | apply ArgsOk.cons | exact ArgOk.pl rfl rfl | exact ArgOk.br rfl AV.noConfusion (by first | rfl | exact sh_int | exact sh_rows | exact sh_rowsO | exact sh_box | exact sh_map (fun _ => rfl))))) (by first | assumption | rfl | simp) rfl ?_) | (refine w9c ?_ ?_ <;> intro _ <;> try exact w9o) | (refine w9d ?_ ?_ <;> intro _ <;> try exact w9s) | (refine w9q ?_; intro bnil hbnil)))
        all_goals first | (exfalso; omega) | (exfalso; contradiction) | (exfalso; simp_all; done) | skip
        refine ⟨(j+1, X), ?_, by first | omega | (simp only; omega), by exact w9a⟩
        all_goals first | exact hS1 | omega
      | false =>
        obtain ⟨c1, hS1⟩ := hS.keep hlt hb
        generalize cnt p l j = c at *
        obtain ⟨o, hci⟩ : ∃ o, X[c]? = some o := ⟨_, List.getElem?_eq_getElem (show c < X.length by omega)⟩
        rw [hb] at hres
        (repeat' (first | ((with_reducible apply J.eff); rfl; (exact e_stM (x := l[j]) rfl rfl rfl rfl rfl rfl)) | refine w9x ?_ | (refine J.callF [dlA l[j]] rfl rfl rfl ⟨_, rfl, hd⟩ (by (repeat' (first | exact ArgsOk.nil | apply ArgsOk.cons | exact ArgOk.pl rfl rfl | exact ArgOk.br rfl AV.noConfusion (by first | rfl | exact sh_int | exact sh_rows | exact sh_rowsO | exact sh_box | exact sh_map (fun _ => rfl))))) (by first | assumption | rfl | simp) rfl ?_) | (refine J.callFQ [dlA l[j]] rfl rfl rfl ⟨_, rfl, hd⟩ (by (repeat' (first | exact ArgsOk.nil | apply ArgsOk.cons | exact ArgOk.pl rfl rfl | exact ArgOk.br rfl AV.noConfusion (by first | rfl | exact sh_int | exact sh_rows | exact sh_rowsO | exact sh_box | exact sh_map (fun _ => rfl))))) (by first | assumption | rfl | simp) rfl ?_) | (refine w9c ?_ ?_ <;> intro _ <;> try exact w9o) | (refine w9d ?_ ?_ <;> intro _ <;> try exact w9s) | (refine w9q ?_; intro bnil hbnil)))
        all_goals first | (exfalso; omega) | (exfalso; contradiction) | (exfalso; simp_all; done) | skip
        refine ⟨(j+1, X.set c l[j]), ?_, by first | omega | (simp only; omega), by exact w9a⟩
        all_goals first | exact hS1 | omega
    · obtain rfl : j = l.length := by omega
      have hlow := hS.low
      rw [List.take_length] at hlow
      have heq : ∀ rep : List AV, ((X.map dlA).take (cnt p l l.length) ++ rep).take ((cnt p l l.length : Nat) : Int).toNat = (l.filter fun d => !p d).map dlA := fun rep => by
        rw [Int.toNat_natCast, List.take_append_of_le_length (by rw [List.length_take, List.length_map]; omega), List.take_take, Nat.min_self, ← List.map_take, hlow]
      have hn1 : cnt p l l.length ≤ (X.map dlA).length := by rw [List.length_map]; omega
      have hn2 : X.map dlA ≠ [] := by intro e; rw [List.map_eq_nil_iff] at e; rw [e] at hXl; simp at hXl; omega
      have hn3 : (0 : Int) ≤ ((cnt p l l.length : Nat) : Int) := by omega
      have hn4 : ((cnt p l l.length : Nat) : Int).toNat ≤ ((X.map dlA).take (cnt p l l.length) ++ List.replicate ((X.map dlA).length - cnt p l l.length) (deadE 6)).length := by
        rw [List.length_append, List.length_take, List.length_replicate]; omega
      (repeat' (first | (refine J.clr rfl rfl rfl hn1 hn2 rfl rfl rfl rfl rfl ?_) | ((with_reducible apply J.step); rfl; (exact s_cutA rfl rfl rfl rfl rfl hn3 hn4 rfl)) | refine w9x ?_ | (refine w9c ?_ ?_ <;> intro _ <;> try exact w9o) | (refine w9d ?_ ?_ <;> intro _ <;> try exact w9s) | (refine w9q ?_; intro bnil hbnil)))
      all_goals first | (exfalso; omega) | exact ⟨rfl, ⟨_, rfl, le_of_eqA (congrArg (AV.sl true 6) (heq _))⟩, rfl, args_start (args_mv rfl (args_pl rfl args_nil))⟩
  · have hno := fidx_none (p := p) (show fidx p l 0 < 0 by omega)
    have hf : (l.filter fun d => !p d) = l := by rw [List.filter_eq_self]; intro d hd; rw [hno d hd]; rfl
    have hr := fidx_range (p := p) (l := l) (k := 0)
    rw [show fidx p l 0 = -1 by omega] at hI
    rw [hf]
    (repeat' (first | refine w9x ?_ | refine w9p (hI) ?_ | (refine w9c ?_ ?_ <;> intro _ <;> try exact w9o) | (refine w9d ?_ ?_ <;> intro _ <;> try exact w9s) | (refine w9q ?_; intro bnil hbnil)))
    all_goals first | (exfalso; omega) | exact ⟨rfl, ⟨_, rfl, .refl _⟩, rfl, args_start (args_mv rfl (args_pl rfl args_nil))⟩
end Go.Proofs.YtkkcnppgcnmikaaGreatDoor
