/- The tail of a row that a slot owns is cleared. No program in sight. -/
import Derived.Test.YtmndhhobdakpgaaDoorFs
import Derived.Test.YtmndhhobdakpgaaDoorFm
import Derived.Test.YtmndhhobdakpgaaDoorCt
import Derived.Lib.SliceRun
namespace FM
open Go Go.RowKit
set_option linter.all false
def deadE (c : Nat) : AV := .agg (List.replicate c .dead)
theorem run_sliceLo {P : Program} {t e : Nat} (ht : P.underlying t = some (.slice e)) {f : TypeInfo} (hf : P.info? e = some f) {a : Addr} {len cap n : Nat} (hn : n ≤ len) (w : World) :
    (Instr.sliceAt t (.slice (some a) len cap) (some (.int .i64 (n : Nat))) none none).run P w = .ok (.slice (if cap = n then some a else some (a.add (n * f.size))) (len - n) (cap - n)) w := by
  have e1 : ∀ (x : Nat) (y : Nat) (code : BoundsCode), x ≤ y → (Instr.sliceBound (.int .i64 (x : Nat)) y code).run P w = .ok x w := fun x y code hxy => by
    have : (0 : Int) ≤ (x : Int) ∧ (x : Int) ≤ (y : Int) := by omega
    simp [Instr.sliceBound, asIntOf, this, hxy]
  have hb : (Instr.sliceBounds true len cap (some (.int .i64 (n : Nat))) none none).run P w = .ok (n, len, cap) w := by
    simp [Instr.sliceBounds, e1 n len .sliceB hn]
  simp [Instr.sliceAt, Instr.slice, run_underlying ht, hb, Go.sizeOf, typeInfo, hf]
theorem J.clr {S : Sys} {N : Nat} {σ : St} {t e c sz by_ : Nat} {z0 : List AV} {ti : TI} {x b : Operand} {s d n : Nat} {xs : List AV} {ops : Array Oper} {l : List Oper} {K : St → Prop} {ty ty2 : Nat} {pos pos2 : String} {aft aft2 : Array Edge}
    (hx : ov σ x = .ref s) (hs : get σ s = .av (.sl true c xs)) (hb : ov σ b = .av (.int (n : Nat))) (hn : n ≤ xs.length) (hne : xs ≠ []) (hT : S.T t = some ⟨.slice e, sz, by_, z0⟩) (hE : S.T e = some ti) (hc : ti.size = c) (hsd : Nat.beq s d = false) (h1 : ((ti.zero.map AV.toV).all fun v => v.oneCell') = true)
    (h : J false S N ops l K ((σ.put d (.av .dead)).upd false s (.av (.sl true c (xs.take n ++ List.replicate (xs.length - n) (deadE c)))))) :
    J false S N ops (⟨some d, .slice t x (some b) none none, ty, pos, aft, none⟩ :: ⟨none, .call ⟨.builtin .clear, #[.tmp d], #[t]⟩, ty2, pos2, aft2, none⟩ :: l) K σ := by
  unfold J at *
  intro hdo w0 L0 Q a w hQ ⟨L, hR⟩
  obtain ⟨hd1, hdo2⟩ := dstOk_cons hdo
  obtain ⟨_, hd2⟩ := dstOk_cons hdo2
  have hd := hd1 d rfl
  have hsN := own_lt hR hs (by simp)
  have hh := hR.hold s hsN
  rw [hs] at hh
  simp only [Hold] at hh
  obtain ⟨m, hm, _⟩ := hold_plain hR hx (by simp)
  simp only [Hold] at hm
  obtain ⟨n2, hb2⟩ := ev_av hR hb
  generalize hbv : a.eval b = bv at hb2
  cases hb2
  obtain ⟨f, zv, hf1, hf2, hf3, hf4, hf5, hf6, hf7⟩ := (S.ok e _ hE).info
  have hfc : f.size = c := by rw [← hc]; exact hf2
  have hzc : zv.cells.size = c := by rw [← hc]; exact hf7
  have hu := (S.ok t _ hT).slice
  generalize hsv : a.tmps.getD s undef = sv at hh hm
  cases hh with
  | slE h => exact absurd rfl hne
  | @slO p _ _ blk cap arr ee u hL hblk hcap hsz hcx hcell hr =>
    have hrun1 := run_sliceLo (P := S.P) hu hf1 (a := ⟨blk, 0, none⟩) (len := xs.length) (cap := cap) hn w
    have hop1 : (execOp a.eval (⟨some d, .slice t x (some b) none none, ty, pos, aft, none⟩ : Oper)).run S.P w = .ok (.value (.slice (if cap = n then some ⟨blk, 0, none⟩ else some ((⟨blk, 0, none⟩ : Addr).add (n * f.size))) (xs.length - n) (cap - n))) w := by
      simp only [execOp, Option.map_none, Option.map_some, Sem.run_bind, hm, hbv, hrun1, Result.andThen_ok, Sem.run_pure]
    generalize hv1 : Value.slice (if cap = n then some ⟨blk, 0, none⟩ else some ((⟨blk, 0, none⟩ : Addr).add (n * f.size))) (xs.length - n) (cap - n) = v1 at hop1
    simp only [wpList, if_true, Region.wanted]
    refine .inl ?_
    unfold Oper.wp
    rw [hop1]
    have hR1 : RelL S w0 L0 N (σ.put d (.av .dead)) (a.put (some d) v1) w (FM.clear d L) := hR.put hd .dead
    have hsd' : d ≠ s := fun e => by subst e; rw [Nat.beq_refl] at hsd; cases hsd
    have hL1 : FM.clear d L blk = .my [s] := by
      unfold FM.clear
      rw [hL]
      simp [Lab.without, hsd]
    have hsv1 : (a.put (some d) v1).tmps.getD s undef = .slice (some ⟨blk, 0, none⟩) xs.length cap := (getD_set_other hsd').trans hsv
    have he2 : (a.put (some d) v1).eval (.tmp d) = v1 := getD_set_same (by rw [hR.size]; exact hd.lt)
    have hlen : (xs.take n ++ List.replicate (xs.length - n) (deadE c)).length = xs.length := by rw [List.length_append, List.length_take, List.length_replicate]; omega
    have hcx' : ∀ y ∈ xs.take n ++ List.replicate (xs.length - n) (deadE c), y.cells.length = c := fun y hy => by
      rcases List.mem_append.1 hy with hy | hy
      · exact hcx y (List.mem_of_mem_take hy)
      · rw [List.eq_of_mem_replicate hy]; exact List.length_replicate
    -- what is read behind it, wherever the row's first cells are as they were
    have fin : ∀ (W : World) (A : Array Value), W.heap[blk]? = some (.cells A ee (0, 0)) → A.size = arr.size → (∀ j, j < n * c → A[j]? = arr[j]?) → W.heap.size = w.heap.size → (∀ k, k ≠ blk → W.heap[k]? = w.heap[k]?) → W.os = w.os → W.tape = w.tape → W.output = w.output →
        wpList S.P ops Q l (a.put (some d) v1) W := fun W A hA hAs hAj hWs hWk hWo hWt hWu => by
      refine h hd2 w0 L0 Q _ W hQ ⟨_, hR1.write (b := blk) (q0 := []) hsN hL1 hWs hWo hWt hWu hWk ?_ false (fun h => by cases h)⟩
      rw [hsv1]
      suffices key : Rep (FM.clear d L) W (some [s]) (.sl true c (xs.take n ++ List.replicate (xs.length - n) (deadE c))) (.slice (some ⟨blk, 0, none⟩) (xs.take n ++ List.replicate (xs.length - n) (deadE c)).length cap) by rw [hlen] at key; exact key
      refine .slO (fun o => (A[o]?).getD undef) hL1 hA (by rw [hlen]; exact hcap) (by rw [hAs, hsz]) hcx' (fun o ho => ?_) fun o y hy => ?_
      · have : o < A.size := by rw [hAs, hsz]; rw [hlen] at ho; exact Nat.lt_of_lt_of_le ho (Nat.mul_le_mul_right _ hcap)
        rw [Array.getElem?_eq_getElem this]; rfl
      · rw [flat_append] at hy
        have htl : (flat (xs.take n)).length = n * c := by rw [flat_length (fun y hy => hcx y (List.mem_of_mem_take hy)), List.length_take, Nat.min_eq_left hn]
        by_cases ho : o < n * c
        · rw [List.getElem?_append_left (by omega)] at hy
          have hol : o < xs.length * c := Nat.lt_of_lt_of_le ho (Nat.mul_le_mul_right _ hn)
          rw [hAj o ho, hcell o hol]
          have hy2 : (flat xs)[o]? = some y := by
            have e : flat xs = flat (xs.take n) ++ flat (xs.drop n) := by rw [← flat_append, List.take_append_drop]
            rw [e, List.getElem?_append_left (by omega)]; exact hy
          refine (hr o y hy2).frame (by omega) hWo hWt hWu (fun k hk _ => ⟨?_, hWk k (fun e => by subst e; rw [hL] at hk; cases hk)⟩) _ fun p' hp' => ?_
          · unfold FM.clear; rw [hk]; rfl
          · cases hp'
            refine ⟨_, rfl, fun k q hk => ⟨?_, hWk k (fun e => ?_)⟩⟩
            · unfold FM.clear
              rw [hk]
              simp [Lab.without, hsd]
            · subst e; rw [hL] at hk; injection hk with hk
              have := congrArg List.length hk
              simp at this
        · rw [List.getElem?_append_right (by omega)] at hy
          have hm := List.mem_of_getElem? hy
          unfold flat at hm
          rw [List.mem_flatMap] at hm
          obtain ⟨z, hz, hyz⟩ := hm
          rw [List.eq_of_mem_replicate hz] at hyz
          have : y = .dead := List.eq_of_mem_replicate hyz
          subst this
          exact .dead
    have hp2 : ∀ W, (Builtin.clear_ #[t] ty2 #[v1]).run S.P w = .ok (.tuple #[]) W → wpList S.P ops Q l (a.put (some d) v1) W → wpList S.P ops Q (⟨none, .call ⟨.builtin .clear, #[.tmp d], #[t]⟩, ty2, pos2, aft2, none⟩ :: l) (a.put (some d) v1) w := fun W hW hk => by
      simp only [wpList, if_true, Region.wanted]
      refine .inl ?_
      unfold Oper.wp
      have : (execOp (a.put (some d) v1).eval (⟨none, .call ⟨.builtin .clear, #[.tmp d], #[t]⟩, ty2, pos2, aft2, none⟩ : Oper)).run S.P w = .ok (.value (.tuple #[])) W := by
        simp only [execOp, resolve, invoke, builtin, Sem.run_bind, Sem.run_pure, Result.andThen_ok, List.map_toArray, List.map_cons, List.map_nil, he2, hW]
      rw [this]
      exact hk
    by_cases hnl : n = xs.length
    · refine hp2 w ?_ (fin w arr hblk rfl (fun _ _ => rfl) rfl (fun _ _ => rfl) rfl rfl rfl)
      rw [← hv1, hnl, Nat.sub_self]
      split <;> simp [Builtin.clear_, run_underlying hu]
    · have hcn : ¬ cap = n := by omega
      obtain ⟨k, hk⟩ : ∃ k, xs.length - n = k + 1 := ⟨xs.length - n - 1, by omega⟩
      obtain ⟨news, hnews⟩ : ∃ news, news = (Builtin.zeroCells zv.cells (k + 1)).toList := ⟨_, rfl⟩
      have hnl2 : news.length = (k + 1) * c := by rw [hnews, Array.length_toList, size_zeroCells, hzc]
      have hfit : n * c + 0 + news.length ≤ arr.size := by
        rw [hnl2, hsz, Nat.add_zero, ← Nat.add_mul]; exact Nat.mul_le_mul_right _ (by omega)
      have hn1 : ∀ v ∈ news, v.oneCell' = true := fun v hv => by
        rw [hnews] at hv
        have hz : ∀ v ∈ zv.cells.toList, v.oneCell' = true := fun v hv => by
          rw [hf5] at hv
          exact List.all_eq_true.1 h1 v hv
        unfold Builtin.zeroCells at hv
        rw [Array.toList_map, List.mem_map] at hv
        obtain ⟨i, hi, rfl⟩ := hv
        have hc0 : 0 < zv.cells.size := by
          rcases Nat.eq_zero_or_pos zv.cells.size with e0 | e0
          · rw [e0] at hi; simp at hi
          · exact e0
        rw [getElem!_pos zv.cells _ (Nat.mod_lt _ hc0)]
        exact hz _ (Array.getElem_mem_toList _)
      have hst := run_storeCells_at S.P blk (n * c) ee news 0 arr w hblk hfit hn1
      simp only [Nat.add_zero] at hst
      refine hp2 (w.setRow blk (arr.toList.take (n * c) ++ news ++ arr.toList.drop (n * c + news.length)).toArray) ?_ (fin _ (arr.toList.take (n * c) ++ news ++ arr.toList.drop (n * c + news.length)).toArray (setRow_heap w blk arr _ ee (0, 0) hblk) ?_ (fun j hj => ?_) (by simp) (fun k hk => setRow_other w blk k _ hk) rfl rfl rfl)
      · rw [← hv1, if_neg hcn, hk]
        have hzr : (zeroValue e).run S.P w = .ok zv w := by simp [zeroValue, typeInfo, hf1, hf4]
        simp only [addr_add, Nat.zero_add, hfc]
        simp [Builtin.clear_, run_underlying hu, hzr, ← hnews, hst]
      · rw [hnl2, Nat.add_zero] at hfit
        simp [hnl2]; omega
      · rw [hnl2] at hfit
        have h1 : j < (arr.toList.take (n * c)).length := by rw [List.length_take, Array.length_toList]; omega
        simp only [List.getElem?_toArray]
        rw [List.append_assoc, List.getElem?_append_left h1, List.getElem?_take, if_pos hj, Array.getElem?_toList]
theorem s_cutA {S : Sys} {σ : St} {d ty : Nat} {pos : String} {aft : Array Edge} {g : Option (Nat × Bool)} {t e c sz by_ : Nat} {z : List AV} {ti : TI} {x b : Operand} {s : Nat} {xs : List AV} {n : Int} (hx : ov σ x = .ref s) (hs : get σ s = .av (.sl true c xs)) (hT : S.T t = some ⟨.slice e, sz, by_, z⟩) (hE : S.T e = some ti)
    (hb : ov σ b = .av (.int n)) (h0 : 0 ≤ n) (h1 : n.toNat ≤ xs.length) (hsd : Nat.beq s d = false) :
    Step S ⟨some d, .slice t x none (some b) none, ty, pos, aft, g⟩ σ ((σ.put s .none).put d (.av (.sl true c (xs.take n.toNat)))) := by
  have := s_cutO (S := S) (σ := σ) (d := d) (ty := ty) (pos := pos) (aft := aft) (g := g) (f := id) (l := xs) hx (by rw [List.map_id]; exact hs) hT hE hb h0 h1 hsd
  rwa [List.map_id] at this
end FM
