/- The reference's ranking, walked. -/
import Derived.Test.YtglbicbaplejeaaRk
import Derived.Test.YtglbicbaplejeaaAk
import Derived.Test.YtglbicbaplejeaaSt
import Derived.Test.YtglbicbaplejeaaDl
import Derived.Test.YtglbicbaplejeaaLf
import Derived.Test.YtglbicbaplejeaaIo
import Derived.Shelf.SlSortCmp.NoneTotal
namespace Go.Proofs.Ytglbicbaplejeaa
open Go FM Go.Proofs
set_option maxRecDepth 10000
set_option maxHeartbeats 1600000
set_option linter.all false
theorem putRow_val {α : Type} [Inhabited α] {enc : α → Value} {f : α → Int} (he : ∀ x, enc x = .int .i64 (f x)) (w : World) (blk : Nat) (d : List α) : Go.Sort.putRow enc w blk 0 d.toArray = Go.Sort.putRow (Value.int .i64) w blk 0 (d.map f).toArray := by
  unfold Go.Sort.putRow
  congr 1
  funext c
  unfold Go.Sort.putCells
  congr 1
  funext k x
  have hs : (d.map f).toArray.size = d.toArray.size := by simp
  rw [hs]
  by_cases h : 0 ≤ k ∧ k < 0 + d.toArray.size
  · rw [if_pos h, if_pos h]
    have hk : k < d.length := by have := h.2; simpa using this
    rw [he, getElem!_pos _ _ (by simpa using hk), getElem!_pos _ _ (by simpa using hk)]
    simp
  · rw [if_neg h, if_neg h]
theorem sh_row {L : Nat → Lab} {w : World} {π : Option (List Nat)} {l : List Int} {u : Value} (h : Rep L w π (.sl false 1 (l.map .int)) u) (hne : l ≠ []) :
    ∃ b off cap, u = .slice (some ⟨b, off, none⟩) l.length cap ∧ L b = .sh ∧ b < w.heap.size ∧ ∀ j, (hj : j < l.length) → w.cell? ⟨b, off + j, none⟩ = some (.int .i64 l[j]) := by
  generalize hxs : l.map AV.int = xs at h
  cases h with
  | slE h => exfalso; apply hne; cases l with
    | nil => rfl
    | cons a r => cases hxs
  | @slS _ c xs b off cap uu hcap hL hb hc hcell hr =>
    subst hxs
    rw [List.length_map]
    refine ⟨b, off, cap, rfl, hL, hb, fun j hj => ?_⟩
    have h1 := hcell j (by rw [List.length_map]; omega)
    have h2 := hr j (.int l[j]) (by rw [flat_single (fun x hx => by obtain ⟨y, _, rfl⟩ := List.mem_map.1 hx; rfl), List.getElem?_map, List.getElem?_eq_getElem hj]; rfl)
    rw [h1]
    generalize uu j = z at h2
    cases h2; rfl
theorem srtF_ok : FnOk Sy.P 64 := ⟨_, Try.func64, rfl, rfl⟩
theorem inM_one {s : Nat} {L : Nat → Lab} {blk : Nat} (h : inM [(s, 0)] L blk = .my [0]) : L blk = .my [s] := by
  obtain ⟨t, i, q, e1, e2, e3⟩ := inM_my h
  cases e3
  simp only [idxM] at e2
  cases hb' : Nat.beq s t with
  | false => rw [hb', cond_false] at e2; cases e2
  | true => have := Nat.eq_of_beq_eq_true hb'; subst this; exact e1
theorem rankJ {m : Nat} {v : Nat → Value} {N : Nat} {σ : FM.St} {bids : List Int} {t1 t2 s c d ty : Nat} {ops : Array Oper} {k : List Oper} {K : FM.St → Prop} {ts : Array Nat} {pos : String} {aft : Array Edge} {g : Option (Nat × Bool)} (hg : live ops g σ = some true)
    (h1 : slotAt σ (.tmp t1) = some s) (h2 : FM.get σ s = .av (.sl true 1 ((iota bids.length).map .int))) (hB : BOk bids 0) (h3 : Nat.beq s d = false) (ht2 : FM.get σ t2 = .clo 65 [c]) (hbx : FM.get σ c = .av (.pt true [.sl false 1 (bids.map .int)])) (hsc : Nat.beq s c = false)
    (h : J false (Sy.fixed m v) N ops k K (putM [(s, 0)] [.sl true 1 ((rk bids).map .int), .dead] (σ.put d (.av (.tup []))))) :
    J false (Sy.fixed m v) N ops (⟨some d, .call ⟨.value (.func 64), #[.tmp t1, .tmp t2], ts⟩, ty, pos, aft, g⟩ :: k) K σ := by
  refine J.callML (xs := [.tmp t2]) (op := .tmp t1) srtF_ok rfl hg h1 h2 h3 (fun w0 L0 a w L hR hpre hrep => ?_) noSh_unit ⟨_, rfl, noSh_ints⟩ h
  have hlen := hB.len
  have hfe := clo_eval ht2 hR
  by_cases hne : bids = []
  · subst hne
    have : ∃ x cap, a.eval (.tmp t1) = .slice x 0 cap := sl_inv hrep
    obtain ⟨x, cap, hv⟩ := this
    simp only [List.map_cons, List.map_nil, hv]
    refine (AnyF.slices_SortFunc_none { lsf with } x cap (a.eval (.tmp t2)) w).mono fun e w' ⟨he, hw⟩ => ?_
    subst hw
    refine ⟨_, inM [(s, 0)] L, he, ⟨rfl, rfl, rfl, Nat.le_refl _, fun _ _ _ => rfl⟩, ⟨hpre.lt, hpre.inj, fun b' p hp e => ?_, fun b' p _ hp => ⟨p, hp⟩, fun b' _ => Iff.rfl, hpre.new⟩, fun b' p hp => ?_, fun i x u hx hu => ?_, .tup rfl fun i x v h => by simp at h⟩
    · subst e; obtain ⟨i, q, h, _⟩ := hpre.head b' [] hp; cases h
    · obtain ⟨i, q, h, h2⟩ := hpre.head b' p hp; exact ⟨i, q, h, Nat.le_of_lt h2⟩
    · match i with
      | 0 =>
        simp only [List.getElem?_cons_zero, Option.some.injEq] at hx hu
        subst hx; subst hu
        have e0 : rk ([] : List Int) = iota ([] : List Int).length := by
          have a1 : rk ([] : List Int) = [] := List.eq_nil_of_length_eq_zero (by simpa using (rk_ok ([] : List Int)).length)
          have a2 : iota ([] : List Int).length = [] := List.eq_nil_of_length_eq_zero (iota_length _)
          rw [a1, a2]
        rw [← hv, e0]; exact hrep
      | 1 => simp only [List.getElem?_cons_succ, List.getElem?_cons_zero, Option.some.injEq] at hx; subst hx; exact .dead
      | i + 2 => simp at hx
  obtain ⟨n, hn⟩ : ∃ n, bids.length = n + 1 := ⟨bids.length - 1, by have := List.length_pos_iff.2 hne; omega⟩
  have hil : (iota bids.length).length = bids.length := iota_length _
  have hrl : (rk bids).length = bids.length := (rk_ok bids).length
  obtain ⟨blk, cap, hv, hH, hb, hL, hBk⟩ := back_row (l := iota bids.length) (l' := rk bids) (n := 2) (rest := [.dead]) (vrest := [a.eval (.tmp t2)]) hpre hrep (by rw [hrl, hil]) (fun e => by rw [e] at hil; simp at hil; omega) rfl rfl (fun i x u hx hu => by
    match i with
    | 0 => simp only [List.getElem?_cons_zero, Option.some.injEq] at hx; subst hx; exact ⟨.dead, rfl⟩
    | i + 1 => simp at hx)
  have hLs := inM_one hL
  have hh := hR.hold c (own_lt hR hbx (by simp))
  rw [hbx] at hh
  simp only [Hold] at hh
  obtain ⟨B, hLB, hpv, hlt, hcc⟩ := pt_at hh
  obtain ⟨u, hu, hru⟩ := hcc 0 _ rfl
  obtain ⟨b, off, cap2, hub, hLb, hbl, hcells⟩ := sh_row hru hne
  subst hub
  have e1 : B ≠ blk := fun e => by subst e; rw [hLB] at hLs; cases hLs; rw [Nat.beq_refl] at hsc; cases hsc
  have e2 : b ≠ blk := fun e => by subst e; rw [hLb] at hLs; cases hLs
  have hcb : ((List.map Operand.tmp [c]).map a.eval).toArray = #[.pointer (some ⟨B, 0, none⟩)] := by
    show #[a.tmps.getD c undef] = _
    rw [hpv]
  rw [hcb] at hfe
  have hcmp := rank_cmp bids n hn hB.at (by omega) w blk B b off cap2 e1 e2 hlt hbl hu hcells (List.finRange (n + 1)).toArray.size
  have hHF : Go.Sort.Holds (fun x : Fin (n + 1) => .int .i64 (x.val : Int)) w blk 0 (List.finRange (n + 1)).toArray := fun j hj => by
    have hj' : j < n + 1 := by simpa using hj
    have := hH j (by simp [hil]; omega)
    have e3 : (List.finRange (n + 1)).toArray[j]! = ⟨j, hj'⟩ := by
      rw [getElem!_pos (List.finRange (n + 1)).toArray j hj]; simp
    have e4 : (iota bids.length).toArray[j]! = (j : Int) := by
      rw [getElem!_pos (iota bids.length).toArray j (by simp [hil]; omega)]; simp [iota]
    rw [e4] at this
    rw [e3]
    exact this
  have eg : ∀ args w, (callFunc 65 args).run Try.prog w = .ok (.enter 65 args) w := enters_of Try.func65 (by kernel_rfl) rfl
  have hcon := Any.slices_SortFunc_total lsf (fun x : Fin (n + 1) => .int .i64 (x.val : Int)) (fun _ => rfl) (fun x y => rkF bids x.val y.val) (rank_swo bids n) 65 _ blk 0 cap (List.finRange (n + 1)).toArray w eg hcmp hHF hb (by simp; omega) (fun x y h1 h2 => by
    unfold ltOf rkF at h1 h2
    simp only [decide_eq_false_iff_not] at h1 h2
    apply Fin.ext
    split at h1 <;> split at h2 <;> omega)
  have hsz : (List.finRange (n + 1)).toArray.size = (iota bids.length).length := by rw [hil, hn]; simp
  rw [hsz] at hcon
  simp only [List.map_cons, List.map_nil, hv, hfe]
  rw [hv, hfe] at hBk
  refine Calls.mono hcon fun e w' ⟨he, q, os, hw⟩ => ?_
  have hpr : w' = Go.Sort.grow (Go.Sort.putRow (Value.int .i64) (Go.Sort.ahead w q) blk 0 (rk bids).toArray) os := by
    rw [hw, rk_fin bids n hn]
    unfold Go.Proofs.sortWorld
    rw [putRow_val (f := fun x : Fin (n + 1) => (x.val : Int)) (fun _ => rfl)]
    rfl
  obtain ⟨L', hB'⟩ := hBk q os
  rw [← hpr] at hB'
  exact ⟨_, L', he, hB'⟩
theorem ranked_spec (bids : List Int) (hB : BOk bids 0) : FnSpec Sy.P 33 [.sl false 1 ((bids).map .int)] [.sl false 1 ((bids).map .int)] (.sl true 1 ((rk bids).map .int)) := by
  have hlen := hB.len
  have hS := Sides_spec bids.length (by omega)
  refine FnSpec.enter (S := Sy) 0 Try.func33 rfl rfl rfl Try.ntmps33 rfl rfl rfl rfl fun v0 => ?_
  (repeat' (first | (refine rankJ (bids := bids) rfl rfl rfl hB rfl rfl rfl rfl ?_) | ((with_reducible apply J.step); rfl; (exact s_mkf (caps := [1]) rfl rfl)) | ((with_reducible apply J.step); rfl; exact FM.st) | ((with_reducible apply J.eff); rfl; exact FM.ef) | ((with_reducible apply J.callP (hS)); rfl; rfl; (repeat' (first | exact ArgsOk.nil | apply ArgsOk.cons | exact ArgOk.pl rfl rfl | exact ArgOk.br rfl AV.noConfusion (by first | rfl | exact sh_int | exact sh_rows | exact sh_rowsO | exact sh_box | exact sh_map (fun _ => rfl)))); (first | rfl | exact (fun h => Bool.noConfusion h) | exact (fun _ => noSh_ints) | exact (fun _ => noSh_strs) | exact (fun _ => NoSh.str) | exact (fun _ => noSh_rows) | exact (fun _ => NoSh.int) | exact (fun _ => NoSh.bool) | exact (fun _ => NoSh.nil) | exact (fun _ => noSh_tup2 (by first | exact noSh_ints | exact noSh_strs | exact NoSh.str | exact noSh_rows | exact NoSh.nil | exact NoSh.int | exact NoSh.bool) (by first | exact noSh_ints | exact noSh_strs | exact NoSh.str | exact NoSh.int | exact NoSh.bool | exact noSh_rows | exact NoSh.nil)) | exact (fun _ => noSh_tup3 (by first | exact noSh_ints | exact noSh_strs | exact NoSh.str | exact noSh_rows | exact NoSh.nil | exact NoSh.int | exact NoSh.bool) (by first | exact noSh_ints | exact noSh_strs | exact NoSh.str | exact NoSh.int | exact NoSh.bool | exact noSh_rows | exact NoSh.nil) (by first | exact noSh_ints | exact noSh_strs | exact NoSh.str | exact NoSh.int | exact NoSh.bool | exact noSh_rows | exact NoSh.nil)))) | ((with_reducible apply J.callPQ (hS)); rfl; rfl; (repeat' (first | exact ArgsOk.nil | apply ArgsOk.cons | exact ArgOk.pl rfl rfl | exact ArgOk.br rfl AV.noConfusion (by first | rfl | exact sh_int | exact sh_rows | exact sh_rowsO | exact sh_box | exact sh_map (fun _ => rfl)))); rfl) | ((with_reducible apply J.eqNil); rfl; rfl; rfl; rfl; intro bnil hbnil) | (refine J.takeRow rfl rfl AV.noConfusion rfl (by first | assumption | (simp only [List.length_map]; omega)) ?_) | with_reducible refine J.nil ?_ | ((with_reducible apply J.skipV); rfl; rfl; rfl) | ((with_reducible apply J.skipU); rfl; rfl) | with_reducible refine CW.seq ?_ | with_reducible refine CW.block ?_ | ((with_reducible refine CW.reg ?_ ?_); rfl) | ((with_reducible refine CW.regQN ?_ ?_ ?_ ?_); rfl; kernel_rfl; rfl) | ((with_reducible refine CW.regS 1 ?_ ?_ ?_); kernel_rfl; rfl; simp only [List.length_cons, List.length_nil, Nat.reduceAdd, Nat.reduceSub, List.take_succ_cons, List.take_zero, List.drop_succ_cons, List.drop_zero]) | with_reducible refine CW.skip ?_ | with_reducible refine CW.ret ?_ | with_reducible refine CW.exit ?_ | refine CW.condT rfl ?_ | refine CW.condF rfl ?_ | (refine CW.condD rfl (fun _ => ?_) (fun _ => ?_) <;> (try (exfalso; omega))) | (refine CW.cond rfl (fun _ => ?_) (fun _ => ?_) <;> (try (exfalso; simp only [decide_eq_true_eq, decide_eq_false_iff_not, Bool.and_eq_true, Bool.or_eq_true] at *; omega))) | with_reducible refine thenQ_n ?_ | with_reducible refine blockQ_n ?_ | ((with_reducible refine blockQ_e ?_ ?_); rfl) | ((with_reducible refine blockQ_x ?_ ?_); rfl) | with_reducible refine blockQ_r ?_ | with_reducible refine thenQ_x ?_ | with_reducible refine thenQ_r ?_ | ((fail_if_success ((with_reducible apply J.step); rfl)); (fail_if_success ((with_reducible apply J.skipU); rfl)); refine J.splitG rfl rfl (fun _ => ?_) (fun _ => ?_) <;> (try (exfalso; omega))) | ((fail_if_success ((with_reducible apply J.step); rfl)); (fail_if_success ((with_reducible apply J.skipU); rfl)); refine J.splitB rfl rfl (fun _ => ?_) (fun _ => ?_))))
  exact .mk rfl rfl rfl
end Go.Proofs.Ytglbicbaplejeaa
