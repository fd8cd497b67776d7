/- The library's sort of accounts, as a call that turns what the caller owns. -/
import Derived.Test.YtkkcnppgcnmikaaGreatDoorHjm
import Derived.Test.YtkkcnppgcnmikaaGreatDoorLyam
import Derived.Test.YtkkcnppgcnmikaaGreatDoorFsm
import Derived.Shelf.SlSortCmp.WholeK
import Derived.Lib.SliceRun
import Derived.Deep.QuietTactic
import Derived.BigQuiet
import Derived.Laws.IdiomCopy
import Derived.Lib.Overlaps
import Derived.Lib.AppendZerosOnto
namespace Go.Proofs.YtkkcnppgcnmikaaGreatDoor
open Go FM Go.Proofs Go.Shelf Go.RowKit Go.Lib Go.Sort
set_option maxRecDepth 10000
set_option maxHeartbeats 1600000
set_option linter.all false
instance : Inhabited Ac := ⟨([], 0, 0, ())⟩
def encA (x : Ac) : List Value := [.string ⟨x.1.toArray⟩, .int .i64 x.2.1, .int .i64 x.2.2.1]
def cfA (x y : Ac) : Int := if x.1 < y.1 then -1 else 1
theorem ltA {x y : Ac} : ltOf cfA x y = decide (x.1 < y.1) := by
  unfold ltOf cfA
  by_cases c : x.1 < y.1
  · rw [if_pos c, decide_eq_true c]; rfl
  · rw [if_neg c, decide_eq_false c]; rfl
theorem swoA : SWO (ltOf cfA) := by
  refine ⟨fun x => ?_, fun x y z h1 h2 => ?_, fun x y z h1 h2 => ?_⟩ <;> rw [ltA] at * <;> simp only [decide_eq_true_eq, decide_eq_false_iff_not] at *
  · exact List.lt_irrefl _
  · exact List.lt_trans h1 h2
  · exact List.not_lt.2 (List.le_trans (List.not_lt.1 h2) (List.not_lt.1 h1))
def asort (l : List Ac) : List Ac := (pdq (ltOf cfA) l.toArray 0 l.length (Lib.bitLen l.length) true true).toList
theorem asort_spec (l : List Ac) : (asort l).Perm l ∧ (asort l).Pairwise (fun x y => ¬ y.1 < x.1) := by
  obtain ⟨⟨h1, _, h2⟩, h3⟩ := pdq_sorts (ltOf cfA) swoA l.toArray 0 l.length (Lib.bitLen l.length) true true (Nat.zero_le _) (by simp) (Or.inl rfl)
  unfold asort
  generalize pdq (ltOf cfA) l.toArray 0 l.length (Lib.bitLen l.length) true true = d at *
  have hs : d.size = l.length := by simpa using h1
  refine ⟨?_, ?_⟩
  · have e1 : d.extract 0 l.length = d := by rw [← hs]; exact Array.extract_size
    have e2 : l.toArray.extract 0 l.length = l.toArray := by have := Array.extract_size (xs := l.toArray); simpa using this
    rw [e1, e2] at h2
    simpa using h2
  · rw [List.pairwise_iff_getElem]
    intro i j hi hj hij
    have hi' : i < d.size := by simpa using hi
    have hj' : j < d.size := by simpa using hj
    have := h3 i j (Nat.zero_le _) hij (by omega)
    rw [getElem!_pos d i hi', getElem!_pos d j hj', ltA] at this
    simpa using this
theorem asort_length (l : List Ac) : (asort l).length = l.length := (asort_spec l).1.length_eq
theorem asort_one (l : List Ac) (h : l.length ≤ 1) : asort l = l := by
  have hp := (asort_spec l).1
  match l, h with
  | [], _ => exact List.Perm.eq_nil hp
  | [a], _ => exact List.perm_singleton.1 hp
theorem cmpA (x y : Ac) (W : World) : Calls Tryz.prog 123 #[.agg (encA x).toArray, .agg (encA y).toArray] W fun e w' => e = .returned (.int .i64 (cfA x y)) ∧ ∃ q os, w' = grow (W.drewN q) os := by
  obtain ⟨s, b, c, u⟩ := x
  obtain ⟨s', b', c', u'⟩ := y
  show Calls Tryz.prog _ #[.agg #[.string ⟨s.toArray⟩, .int .i64 b, .int .i64 c], .agg #[.string ⟨s'.toArray⟩, .int .i64 b', .int .i64 c']] W fun e w' => e = .returned (.int .i64 (if s < s' then -1 else 1)) ∧ _
  go_enter Tryz.func123, Tryz.ntmps123
  by_cases c : s < s'
  · rw [if_pos c]
    have hb : Op.bytesLess s s' = true := by rw [less_lt]; exact decide_eq_true c
    go_wp2
    go_ret
    refine ⟨rfl, 0, ?_⟩
    rw [alloc_eq_grow, alloc_eq_grow, grow_grow]
    exact ⟨_, rfl⟩
  · rw [if_neg c]
    have hb : Op.bytesLess s s' = false := by rw [less_lt]; exact decide_eq_false c
    go_wp2
    go_ret
    refine ⟨rfl, 0, ?_⟩
    rw [alloc_eq_grow, alloc_eq_grow, grow_grow]
    exact ⟨_, rfl⟩
theorem cells_ac (x : Ac) : (acA x).cells = [.str x.1, .int x.2.1, .int x.2.2.1] := rfl
theorem ac_cells {l : List Ac} : ∀ x ∈ l.map acA, x.cells.length = 3 := fun x hx => by obtain ⟨z, _, rfl⟩ := List.mem_map.1 hx; rfl
theorem rep_enc {L : Nat → Lab} {w : World} {π : Option (List Nat)} {x : Ac} {j : Nat} {y : AV} (h : (acA x).cells[j]? = some y) : Rep L w π y (encA x)[j]! := by
  match j, h with
  | 0, h => cases h; exact .str
  | 1, h => cases h; exact .int
  | 2, h => cases h; exact .int
  | j + 3, h => simp [cells_ac] at h
theorem enc_rep {L : Nat → Lab} {w : World} {π : Option (List Nat)} {x : Ac} {j : Nat} {y : AV} {v : Value} (h : (acA x).cells[j]? = some y) (hr : Rep L w π y v) : v = (encA x)[j]! := by
  match j, h with
  | 0, h => cases h; cases hr; rfl
  | 1, h => cases h; cases hr; rfl
  | 2, h => cases h; cases hr; rfl
  | j + 3, h => simp [cells_ac] at h
/-- The frame behind a sort of accounts: the row holds l', some draws, some new blocks. -/
theorem back_rowA {L : Nat → Lab} {w : World} {v : Value} {l l' : List Ac} {n : Nat} {rest : List AV} {vrest : List Value} (hpre : FM.Pre n L w) (hrep : Rep L w (some [0]) (.sl true 3 (l.map acA)) v) (hlen : l'.length = l.length) (hne : l ≠ []) (hn : n = rest.length + 1) (hl : vrest.length = rest.length)
    (hsh : ∀ (i : Nat) x u, rest[i]? = some x → vrest[i]? = some u → Rep L w (some [i + 1]) x u ∧ x.isOwn = false) :
    ∃ blk cap, v = .slice (some ⟨blk, 0, none⟩) l.length cap ∧ HoldsK encA 3 w blk 0 l.toArray ∧ blk < w.heap.size ∧ L blk = .my [0] ∧
      ∀ k os, ∃ L', FM.Back n (.sl true 3 (l'.map acA) :: rest) (.tup []) L w (v :: vrest) (.tuple #[]) (sortWorldK encA 3 w blk 0 k l'.toArray os) L' := by
  cases hl0 : l with
  | nil => exact absurd hl0 hne
  | cons x0 l0 =>
  rw [← hl0]
  generalize hxs : l.map acA = xs at hrep
  cases hrep with
  | slE h => rw [hl0] at hxs; cases hxs
  | @slO p c xs b cap arr e u hL hb hcap hsz hc hcell hr =>
    subst hxs
    have hbl : b < w.heap.size := (Array.getElem?_eq_some_iff.1 hb).1
    rw [List.length_map] at hcap hcell ⊢
    have hval : ∀ o, o < l.length * 3 → arr[o]? = some ((encA l.toArray[o / 3]!)[o % 3]!) := fun o ho => by
      have hi : o / 3 < l.length := by omega
      have h1 := hcell o ho
      have hx : (l.map acA)[o / 3]? = some (acA l[o / 3]) := by rw [List.getElem?_map, List.getElem?_eq_getElem hi]; rfl
      have e1 : l.toArray[o / 3]! = l[o / 3] := by rw [getElem!_pos l.toArray (o / 3) (by simpa using hi)]; simp
      rw [e1]
      have e2 : o / 3 * 3 + o % 3 = o := by omega
      have hm : o % 3 < (acA l[o / 3]).cells.length := by rw [cells_ac]; exact Nat.mod_lt _ (by decide)
      have hy : (acA l[o / 3]).cells[o % 3]? = some ((acA l[o / 3]).cells[o % 3]) := List.getElem?_eq_getElem hm
      have h2 := flat_get hc hx hy
      rw [e2] at h2
      rw [h1, enc_rep hy (hr o _ h2)]
    refine ⟨b, cap, rfl, fun j hj => ?_, hbl, hL, fun k os => ?_⟩
    · have hj' : j < l.length * 3 := by simpa using hj
      refine ⟨?_, ?_⟩
      · rw [cell_of_row w b (0 + j) arr e (0, 0) hb, Nat.zero_add, hval j hj', get_flatK _ _ _ _ (by simpa using hj')]; rfl
      · simp only [World.frozen?, hb]; simp
    · obtain ⟨W, hW⟩ : ∃ W, W = sortWorldK encA 3 w b 0 k l'.toArray os := ⟨_, rfl⟩
      rw [← hW]
      have hWs : W.heap.size = w.heap.size + os.size := by rw [hW]; simp [sortWorldK, putRowK, Go.Sort.grow, Go.Sort.putRow, Go.Sort.mapBlock, Go.Sort.ahead]
      have hWo : W.os = w.os := by rw [hW]; rfl
      have hWt : W.tape = w.tape := by rw [hW]; rfl
      have hWu : W.output = w.output := by rw [hW]; rfl
      have hWb : W.heap[b]? = some (.cells (Go.Sort.putCells id 0 (flatK encA 3 l'.toArray) arr) e (0, 0)) := by
        rw [hW]
        simp only [sortWorldK, putRowK, Go.Sort.grow, Go.Sort.putRow, Go.Sort.mapBlock, Go.Sort.ahead]
        rw [Array.getElem?_append_left (by simpa using hbl), Array.getElem?_modify, if_pos rfl, hb]; rfl
      have hWk : ∀ b', b' < w.heap.size → b' ≠ b → W.heap[b']? = w.heap[b']? := fun b' h1 h2 => by
        rw [hW]
        simp only [sortWorldK, putRowK, Go.Sort.grow, Go.Sort.putRow, Go.Sort.mapBlock, Go.Sort.ahead]
        rw [Array.getElem?_append_left (by simpa using h1), Array.getElem?_modify, if_neg (fun e => h2 e.symm)]
      clear hW
      refine ⟨L, ⟨hWo, hWt, hWu, by omega, fun b' h1 h2 => hWk b' h1 (fun e => by subst e; exact h2 _ hL)⟩, ⟨fun b' p hp => by have := hpre.lt b' p hp; omega, hpre.inj, fun b' p hp e => ?_, fun b' p _ hp => ⟨p, hp⟩, fun b' _ => Iff.rfl, fun b' h1 h2 => hpre.new b' (by omega) h2⟩, fun b' p hp => ?_, fun i x u' hx hu => ?_, .tup rfl fun i x v h => by simp at h⟩
      · subst e; obtain ⟨i, q, h, _⟩ := hpre.head b' [] hp; cases h
      · obtain ⟨i, q, h, h2⟩ := hpre.head b' p hp; exact ⟨i, q, h, by omega⟩
      · cases i with
        | zero =>
          simp only [List.getElem?_cons_zero, Option.some.injEq] at hx hu
          subst hx; subst hu
          have hsl : (l'.map acA).length = l.length := by rw [List.length_map, hlen]
          rw [← hsl]
          refine .slO (fun o => (flatK encA 3 l'.toArray)[o]!) hL hWb (by rw [hsl]; exact hcap) (by simp [Go.Sort.putCells, hsz]) ac_cells (fun o ho => ?_) fun o y hy => ?_
          · rw [hsl] at ho
            have hoa : o < arr.size := by rw [hsz]; exact Nat.lt_of_lt_of_le ho (Nat.mul_le_mul_right _ hcap)
            simp only [Go.Sort.putCells, Array.getElem?_mapIdx, Array.getElem?_eq_getElem hoa, Option.map_some]
            rw [if_pos ⟨Nat.zero_le _, by simp; omega⟩]; rfl
          · obtain ⟨i, j, x, h1, h2, h3, h4⟩ := flat_split ac_cells hy
            rw [List.getElem?_map, Option.map_eq_some_iff] at h1
            obtain ⟨z, hz, rfl⟩ := h1
            have hil : i < l'.length := (List.getElem?_eq_some_iff.1 hz).1
            have e1 : l'.toArray[o / 3]! = z := by
              rw [show o / 3 = i by omega, getElem!_pos l'.toArray i (by simpa using hil)]
              simp only [List.getElem_toArray]
              rw [List.getElem?_eq_getElem hil] at hz; exact Option.some.inj hz
            show Rep L W _ y (flatK encA 3 l'.toArray)[o]!
            rw [get_flatK _ _ _ _ (by simp; omega), e1, show o % 3 = j by omega]
            exact rep_enc h2
        | succ i =>
          simp only [List.getElem?_cons_succ] at hx hu
          obtain ⟨h1, h2⟩ := hsh i x u' hx hu
          refine (Rep.frame (by omega) hWo hWt hWu (fun b' hb' hlt => ⟨hb', hWk b' hlt (fun e => by subst e; rw [hL] at hb'; cases hb')⟩) (h1.replace (π' := none) h2) none (fun p hp => by cases hp)).any _
theorem srtA_ok : FnOk Sy.P 122 := ⟨_, Tryz.func122, rfl, rfl⟩
theorem acJ {S : FM.Sys} {N : Nat} {σ : FM.St} {l : List Ac} {t1 s d ty : Nat} {ops : Array Oper} {k : List Oper} {K : FM.St → Prop} {ts : Array Nat} {pos : String} {aft : Array Edge} {g : Option (Nat × Bool)} (hP : Sy.P = S.P) (hg : live ops g σ = some true)
    (h1 : slotAt σ (.tmp t1) = some s) (h2 : FM.get σ s = .av (.sl true 3 (l.map acA))) (hne : l ≠ []) (hlb : l.length ≤ 1000000) (h3 : Nat.beq s d = false)
    (h : J false S N ops k K (putM [(s, 0)] [.sl true 3 ((asort l).map acA), .dead] (σ.put d (.av (.tup []))))) :
    J false S N ops (⟨some d, .call ⟨.value (.func 122), #[.tmp t1, .func 123], ts⟩, ty, pos, aft, g⟩ :: k) K σ := by
  refine J.callMP (xs := [.func 123]) (op := .tmp t1) srtA_ok hP hg h1 h2 h3 (fun w0 L0 a w L hR hpre hrep => ?_) noSh_unit ⟨_, rfl, .sl fun x hx => ?_⟩ h
  · obtain ⟨blk, cap, hv, hH, hb, hL, hBk⟩ := back_rowA (l' := asort l) (n := 2) (rest := [.dead]) (vrest := [a.eval (.func 123)]) hpre hrep (asort_length l) hne rfl rfl (fun i x u hx hu => by
      match i with
      | 0 => simp only [List.getElem?_cons_zero, Option.some.injEq] at hx; subst hx; exact ⟨.dead, rfl⟩
      | i + 1 => simp at hx)
    have eg : ∀ args w, (callFunc 123 args).run Tryz.prog w = .ok (.enter 123 args) w := enters_of Tryz.func123 (by kernel_rfl) rfl
    have hcon := AnyQ.slices_SortFunc_eq lsa 3 Tryz.isAgg46 Tryz.sizeOf46 encA (fun _ => rfl) (fun x v hv => by simp [encA] at hv; rcases hv with rfl | rfl | rfl <;> rfl) cfA swoA 123 #[] blk 0 cap l.toArray w eg (fun m os dk _ x y => cmpA x y _) hH hb (by simp; omega)
    simp only [List.map_cons, List.map_nil, hv]
    rw [hv] at hBk
    have hsz : l.toArray.size = l.length := by simp
    rw [hsz] at hcon
    refine Calls.mono hcon fun e w' ⟨he, q, os, hw⟩ => ?_
    obtain ⟨L', hB'⟩ := hBk q os
    subst hw
    refine ⟨_, L', he, ?_⟩
    unfold asort at hB' ⊢
    exact hB'
  · obtain ⟨z, _, rfl⟩ := List.mem_map.1 hx
    exact noSh_aggL rfl
end Go.Proofs.YtkkcnppgcnmikaaGreatDoor

/- Rows of elements of several cells: copied, moved. No program in sight. -/
namespace FM
open Go Go.RowKit
set_option linter.all false
theorem run_copyK {P : Program} (w : World) (dT sT ty elem : TypeId) (b o dLen dCap : Nat) (a : Addr) (sLen sCap c : Nat) (cs : List Value)
    (hu : P.underlying dT = some (.slice elem)) (hs : (P.info? elem).map (·.size) = some c) (hn : cs.length = Nat.min sLen dLen * c)
    (hsrc : ∀ (j : Nat) v, cs[j]? = some v → w.cell? (a.add j) = some v) (hc : ∀ j, j < cs.length → (w.cell? ⟨b, o + j, none⟩).isSome = true) (hf : ∀ j, j < cs.length → w.frozen? ⟨b, o + j, none⟩ = false) (h1 : ∀ v ∈ cs, v.oneCell' = true) :
    (Builtin.copy_ #[dT, sT] ty #[.slice (some ⟨b, o, none⟩) dLen dCap, .slice (some a) sLen sCap]).run P w = .ok (goInt (Nat.min sLen dLen : Nat)) (w.setCells b o cs) := by
  have hl := run_loadCells_list (P := P) w a cs hsrc
  have hst := run_storeCells_cells (P := P) b o cs 0 w (by simpa using hc) (by simpa using hf) h1
  cases hq : P.info? elem with
  | none => simp [hq] at hs
  | some i =>
    have hi : i.size = c := by simpa [hq] using hs
    simp [Builtin.copy_, run_underlying hu, Builtin.lenOf, Builtin.firstCells, Go.sizeOf, typeInfo, hq, hi, ← hn, hl, hst]
theorem setCells_row (b : Nat) (e : TypeId) : ∀ (vs : List Value) (o : Nat) (w : World) (arr : Array Value), w.heap[b]? = some (.cells arr e (0, 0)) → o + vs.length ≤ arr.size →
    ∃ A, (w.setCells b o vs).heap[b]? = some (.cells A e (0, 0)) ∧ A.size = arr.size ∧ ∀ j, A[j]? = if o ≤ j ∧ j < o + vs.length then vs[j - o]? else arr[j]?
  | [], o, w, arr, h, _ => ⟨arr, h, rfl, fun j => by rw [if_neg (by simp only [List.length_nil]; omega)]⟩
  | v :: r, o, w, arr, h, hl => by
    rw [List.length_cons] at hl
    have h1 : (w.setCell ⟨b, o, none⟩ v).heap[b]? = some (.cells (arr.setIfInBounds o v) e (0, 0)) := by simp [World.setCell, Array.getElem?_modify, h]
    obtain ⟨A, a1, a2, a3⟩ := setCells_row b e r (o + 1) _ _ h1 (by simp; omega)
    refine ⟨A, a1, by simpa using a2, fun j => ?_⟩
    rw [a3, List.length_cons]
    by_cases h2 : o + 1 ≤ j ∧ j < o + 1 + r.length
    · rw [if_pos h2, if_pos (by omega), show j - o = (j - (o + 1)) + 1 by omega, List.getElem?_cons_succ]
    · rw [if_neg h2, Array.getElem?_setIfInBounds]
      by_cases h3 : o = j
      · subst h3
        rw [if_pos rfl, if_pos (by omega), if_pos (by omega), Nat.sub_self]; rfl
      · rw [if_neg h3, if_neg (by omega)]
theorem setCells_keep (b : Nat) : ∀ (vs : List Value) (o : Nat) (w : World), (∀ k, k ≠ b → (w.setCells b o vs).heap[k]? = w.heap[k]?) ∧ (w.setCells b o vs).heap.size = w.heap.size ∧ (w.setCells b o vs).os = w.os ∧ (w.setCells b o vs).tape = w.tape ∧ (w.setCells b o vs).output = w.output
  | [], o, w => ⟨fun _ _ => rfl, rfl, rfl, rfl, rfl⟩
  | v :: r, o, w => by
    obtain ⟨h1, h2, h3, h4, h5⟩ := setCells_keep b r (o + 1) (w.setCell ⟨b, o, none⟩ v)
    refine ⟨fun k hk => (h1 k hk).trans ?_, h2.trans ?_, h3.trans rfl, h4.trans rfl, h5.trans rfl⟩
    · simp [World.setCell, Array.getElem?_modify, Ne.symm hk]
    · simp [World.setCell]
/-- A row that came out: where it lay, or anew. -/
def RowOut (w : World) (b n c : Nat) (news : List Value) (v : Value) (w' : World) : Prop :=
  ∃ B C A et, v = .slice (some ⟨B, 0, none⟩) n C ∧ (B = b ∨ w.heap.size ≤ B) ∧ n ≤ C ∧ A.size = C * c ∧ w'.heap[B]? = some (.cells A et (0, 0)) ∧ (∀ (j : Nat) u, news[j]? = some u → A[j]? = some u) ∧ w.heap.size ≤ w'.heap.size ∧ (∀ k, k ≠ b → k < w.heap.size → w'.heap[k]? = w.heap[k]?) ∧ w'.os = w.os ∧ w'.tape = w.tape ∧ w'.output = w.output
theorem back_out {L : Nat → Lab} {w : World} {b N n c : Nat} {vs : List Value} {news : List Value} {v : Value} {w' : World} {ys xs9' : List AV} (hpre : FM.Pre N L w) (hL : L b = .my [0]) (hN : 0 < N) (hvs : vs.length = N) (h : RowOut w b n c news v w') (hys : ys.length = n) (hc : ∀ x ∈ ys, x.cells.length = c)
    (hnews : ∀ (o : Nat) y, (flat ys)[o]? = some y → ∃ u, news[o]? = some u ∧ ∀ (L : Nat → Lab) (w : World) π, Rep L w π y u) (has : ∀ (i : Nat) x, xs9'[i]? = some x → x = .dead) :
    ∃ L', FM.Back N xs9' (.sl true c ys) L w vs v w' L' := by
  obtain ⟨B, C, A, et, rfl, hB, hnC, hA, hH, hcells, hs, hk, ho, ht, hu⟩ := h
  have hlno : ∀ b', L b' ≠ .my [N] := fun b' h => by obtain ⟨i, q, e1, e2⟩ := hpre.head b' _ h; cases e1; omega
  have hBl : B < w'.heap.size := (Array.getElem?_eq_some_iff.1 hH).1
  obtain ⟨L', hL'⟩ : ∃ L' : Nat → Lab, L' = fun b' => if b' = B then .my [N] else L b' := ⟨_, rfl⟩
  have l1 : L' B = .my [N] := by rw [hL']; simp
  have l2 : ∀ b', b' ≠ B → L' b' = L b' := fun b' h => by rw [hL']; simp [h]
  clear hL'
  subst hys
  refine ⟨L', ⟨ho, ht, hu, hs, fun b' h1 h2 => hk b' (fun e => by subst e; exact h2 _ hL) h1⟩, ⟨fun b' p hp => ?_, fun b1 b2 p h1 h2 => ?_, fun b' p hp e => ?_, fun b' p hlt hp => ?_, fun b' hlt => ?_, fun b' h1 h2 => ?_⟩, fun b' p hp => ?_, fun i x u' hx hu => ?_, ?_⟩
  · by_cases e : b' = B
    · subst e; exact hBl
    · rw [l2 b' e] at hp; have := hpre.lt b' p hp; omega
  · by_cases e1 : b1 = B
    · subst e1
      rw [l1] at h1; cases h1
      by_cases e2 : b2 = b1
      · exact e2.symm
      · rw [l2 b2 e2] at h2; exact absurd h2 (hlno b2)
    · rw [l2 b1 e1] at h1
      by_cases e2 : b2 = B
      · subst e2
        rw [l1] at h2; cases h2
        exact absurd h1 (hlno b1)
      · rw [l2 b2 e2] at h2; exact hpre.inj b1 b2 p h1 h2
  · subst e
    by_cases e : b' = B
    · subst e; rw [l1] at hp; cases hp
    · rw [l2 b' e] at hp; obtain ⟨i, q, h, _⟩ := hpre.head b' [] hp; cases h
  · by_cases e : b' = B
    · subst e
      rcases hB with rfl | hB
      · exact ⟨_, hL⟩
      · omega
    · rw [l2 b' e] at hp; exact ⟨p, hp⟩
  · by_cases e : b' = B
    · subst e
      rcases hB with rfl | hB
      · rw [l1, hL]; constructor <;> intro h <;> cases h
      · omega
    · rw [l2 b' e]
  · by_cases e : b' = B
    · subst e; rw [l1] at h2; cases h2
    · rw [l2 b' e] at h2; exact hpre.new b' h1 h2
  · by_cases e : b' = B
    · subst e; rw [l1] at hp; cases hp; exact ⟨N, [], rfl, Nat.le_refl _⟩
    · rw [l2 b' e] at hp; obtain ⟨i, q, h, h2⟩ := hpre.head b' p hp; exact ⟨i, q, h, by omega⟩
  · rw [has i x hx]; exact .dead
  · refine .slO (fun o => (A[o]?).getD undef) l1 hH hnC hA hc (fun o ho => ?_) fun o y hy => ?_
    · have : o < A.size := by rw [hA]; exact Nat.lt_of_lt_of_le ho (Nat.mul_le_mul_right _ hnC)
      rw [Array.getElem?_eq_getElem this]; rfl
    · obtain ⟨u, h1, h2⟩ := hnews o y hy
      rw [hcells o u h1]; exact h2 _ _ _
/-! ### rows of plain cells -/
def simp1 : AV → Bool
  | .int _ => true
  | .str _ => true
  | _ => false
theorem toV_one {L : Nat → Lab} {w : World} {π : Option (List Nat)} {y : AV} {v : Value} (h : simp1 y = true) (hr : Rep L w π y v) : v = y.toV := by
  cases hr <;> first | rfl | (simp [simp1] at h)
theorem toV_any {L : Nat → Lab} {w : World} {π : Option (List Nat)} {y : AV} (h : simp1 y = true) : Rep L w π y y.toV := by
  cases y <;> first | exact .int | exact .str | (simp [simp1] at h)
theorem toV_cell {y : AV} (h : simp1 y = true) : y.toV.oneCell' = true := by
  cases y <;> first | rfl | (simp [simp1] at h)
theorem own_row {L : Nat → Lab} {w : World} {p c : Nat} {xs : List AV} {v : Value} (hrep : Rep L w (some [p]) (.sl true c xs) v) (hne : xs ≠ []) (hs : ∀ y ∈ flat xs, simp1 y = true) :
    ∃ b cap arr e, v = .slice (some ⟨b, 0, none⟩) xs.length cap ∧ L b = .my [p] ∧ w.heap[b]? = some (.cells arr e (0, 0)) ∧ xs.length ≤ cap ∧ arr.size = cap * c ∧ (∀ x ∈ xs, x.cells.length = c) ∧ ∀ (j : Nat) u, ((flat xs).map AV.toV)[j]? = some u → arr[j]? = some u := by
  cases hrep with
  | slE h => exact absurd rfl hne
  | @slO p c xs b cap arr e u hL hb hcap hsz hc hcell hr =>
    refine ⟨b, cap, arr, e, rfl, hL, hb, hcap, hsz, hc, fun j x hj => ?_⟩
    rw [List.getElem?_map, Option.map_eq_some_iff] at hj
    obtain ⟨y, hy, rfl⟩ := hj
    have hlt : j < xs.length * c := by rw [← flat_length hc]; exact (List.getElem?_eq_some_iff.1 hy).1
    rw [hcell j hlt, toV_one (hs y (List.mem_of_getElem? hy)) (hr j y hy)]
theorem flat_news {ys : List AV} (hs : ∀ y ∈ flat ys, simp1 y = true) : ∀ (o : Nat) y, (flat ys)[o]? = some y → ∃ u, ((flat ys).map AV.toV)[o]? = some u ∧ ∀ (L : Nat → Lab) (w : World) π, Rep L w π y u := fun o y h =>
  ⟨y.toV, by rw [List.getElem?_map, h]; rfl, fun L w π => toV_any (hs y (List.mem_of_getElem? h))⟩
theorem flat_cells {ys : List AV} (hs : ∀ y ∈ flat ys, simp1 y = true) : ∀ u ∈ (flat ys).map AV.toV, u.oneCell' = true := fun u hu => by
  obtain ⟨y, hy, rfl⟩ := List.mem_map.1 hu
  exact toV_cell (hs y hy)
theorem flat_take {c : Nat} : ∀ {xs : List AV} (_ : ∀ x ∈ xs, x.cells.length = c) (k : Nat), flat (xs.take k) = (flat xs).take (k * c)
  | [], _, k => by simp [flat]
  | x :: xs, h, 0 => by simp [flat]
  | x :: xs, h, k + 1 => by
    have hx := h x (List.mem_cons_self ..)
    have ih := flat_take (xs := xs) (fun y hy => h y (List.mem_cons_of_mem _ hy)) k
    simp only [flat, List.take_succ_cons, List.flatMap_cons] at ih ⊢
    rw [ih, List.take_append, hx, List.take_of_length_le (l := x.cells) (by rw [hx, Nat.add_mul]; omega), show (k + 1) * c - c = k * c by rw [Nat.add_mul]; omega]
theorem flat_drop {c : Nat} : ∀ {xs : List AV} (_ : ∀ x ∈ xs, x.cells.length = c) (k : Nat), flat (xs.drop k) = (flat xs).drop (k * c)
  | [], _, k => by simp [flat]
  | x :: xs, h, 0 => by simp [flat]
  | x :: xs, h, k + 1 => by
    have hx := h x (List.mem_cons_self ..)
    have ih := flat_drop (xs := xs) (fun y hy => h y (List.mem_cons_of_mem _ hy)) k
    simp only [flat, List.drop_succ_cons, List.flatMap_cons] at ih ⊢
    rw [ih, List.drop_append, hx, @List.drop_eq_nil_of_le _ x.cells _ (by rw [hx, Nat.add_mul]; omega), List.nil_append, show (k + 1) * c - c = k * c by rw [Nat.add_mul]; omega]
end FM
