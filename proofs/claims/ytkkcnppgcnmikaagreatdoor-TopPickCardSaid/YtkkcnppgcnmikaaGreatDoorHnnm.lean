/- The library's sort of accounts, as a call that turns what the caller owns. -/
import Derived.Test.YtkkcnppgcnmikaaGreatDoorHjnm
import Derived.Test.YtkkcnppgcnmikaaGreatDoorLyanm
import Derived.Test.YtkkcnppgcnmikaaGreatDoorFsnm
import Derived.Shelf.SlSortCmp.WholeK
import Derived.Lib.SliceRun
import Derived.Deep.QuietTactic
import Derived.BigQuiet
namespace Go.Proofs.YtkkcnppgcnmikaaGreatDoor
open Go FM Go.Proofs Go.Shelf Go.RowKit Go.Lib Go.Sort
set_option maxRecDepth 10000
set_option maxHeartbeats 1600000
set_option linter.all false
instance : Inhabited Ac := ⟨([], 0, 0, ())⟩
def encA (x : Ac) : List Value := [.string ⟨x.1.toArray⟩, .int .i64 x.2.1, .int .i64 x.2.2.1]
def cfA (x y : Ac) : Int := if x.1 < y.1 then -1 else 1
theorem ltA {x y : Ac} : ltOf cfA x y = decide (x.1 < y.1) := by
  unfold ltOf cfA
  by_cases c : x.1 < y.1
  · rw [if_pos c, decide_eq_true c]; rfl
  · rw [if_neg c, decide_eq_false c]; rfl
theorem swoA : SWO (ltOf cfA) := by
  refine ⟨fun x => ?_, fun x y z h1 h2 => ?_, fun x y z h1 h2 => ?_⟩ <;> rw [ltA] at * <;> simp only [decide_eq_true_eq, decide_eq_false_iff_not] at *
  · exact List.lt_irrefl _
  · exact List.lt_trans h1 h2
  · exact List.not_lt.2 (List.le_trans (List.not_lt.1 h2) (List.not_lt.1 h1))
def asort (l : List Ac) : List Ac := (pdq (ltOf cfA) l.toArray 0 l.length (Lib.bitLen l.length) true true).toList
theorem asort_spec (l : List Ac) : (asort l).Perm l ∧ (asort l).Pairwise (fun x y => ¬ y.1 < x.1) := by
  obtain ⟨⟨h1, _, h2⟩, h3⟩ := pdq_sorts (ltOf cfA) swoA l.toArray 0 l.length (Lib.bitLen l.length) true true (Nat.zero_le _) (by simp) (Or.inl rfl)
  unfold asort
  generalize pdq (ltOf cfA) l.toArray 0 l.length (Lib.bitLen l.length) true true = d at *
  have hs : d.size = l.length := by simpa using h1
  refine ⟨?_, ?_⟩
  · have e1 : d.extract 0 l.length = d := by rw [← hs]; exact Array.extract_size
    have e2 : l.toArray.extract 0 l.length = l.toArray := by have := Array.extract_size (xs := l.toArray); simpa using this
    rw [e1, e2] at h2
    simpa using h2
  · rw [List.pairwise_iff_getElem]
    intro i j hi hj hij
    have hi' : i < d.size := by simpa using hi
    have hj' : j < d.size := by simpa using hj
    have := h3 i j (Nat.zero_le _) hij (by omega)
    rw [getElem!_pos d i hi', getElem!_pos d j hj', ltA] at this
    simpa using this
theorem asort_length (l : List Ac) : (asort l).length = l.length := (asort_spec l).1.length_eq
theorem cmpA (x y : Ac) (W : World) : Calls Tryz.prog 123 #[.agg (encA x).toArray, .agg (encA y).toArray] W fun e w' => e = .returned (.int .i64 (cfA x y)) ∧ ∃ q os, w' = grow (W.drewN q) os := by
  obtain ⟨s, b, c, u⟩ := x
  obtain ⟨s', b', c', u'⟩ := y
  show Calls Tryz.prog _ #[.agg #[.string ⟨s.toArray⟩, .int .i64 b, .int .i64 c], .agg #[.string ⟨s'.toArray⟩, .int .i64 b', .int .i64 c']] W fun e w' => e = .returned (.int .i64 (if s < s' then -1 else 1)) ∧ _
  go_enter Tryz.func123, Tryz.ntmps123
  by_cases c : s < s'
  · rw [if_pos c]
    have hb : Op.bytesLess s s' = true := by rw [less_lt]; exact decide_eq_true c
    go_wp2
    go_ret
    refine ⟨rfl, 0, ?_⟩
    rw [alloc_eq_grow, alloc_eq_grow, grow_grow]
    exact ⟨_, rfl⟩
  · rw [if_neg c]
    have hb : Op.bytesLess s s' = false := by rw [less_lt]; exact decide_eq_false c
    go_wp2
    go_ret
    refine ⟨rfl, 0, ?_⟩
    rw [alloc_eq_grow, alloc_eq_grow, grow_grow]
    exact ⟨_, rfl⟩
theorem cells_ac (x : Ac) : (acA x).cells = [.str x.1, .int x.2.1, .int x.2.2.1] := rfl
theorem ac_cells {l : List Ac} : ∀ x ∈ l.map acA, x.cells.length = 3 := fun x hx => by obtain ⟨z, _, rfl⟩ := List.mem_map.1 hx; rfl
theorem rep_enc {L : Nat → Lab} {w : World} {π : Option (List Nat)} {x : Ac} {j : Nat} {y : AV} (h : (acA x).cells[j]? = some y) : Rep L w π y (encA x)[j]! := by
  match j, h with
  | 0, h => cases h; exact .str
  | 1, h => cases h; exact .int
  | 2, h => cases h; exact .int
  | j + 3, h => simp [cells_ac] at h
theorem enc_rep {L : Nat → Lab} {w : World} {π : Option (List Nat)} {x : Ac} {j : Nat} {y : AV} {v : Value} (h : (acA x).cells[j]? = some y) (hr : Rep L w π y v) : v = (encA x)[j]! := by
  match j, h with
  | 0, h => cases h; cases hr; rfl
  | 1, h => cases h; cases hr; rfl
  | 2, h => cases h; cases hr; rfl
  | j + 3, h => simp [cells_ac] at h
/-- The frame behind a sort of accounts: the row holds l', some draws, some new blocks. -/
theorem back_rowA {L : Nat → Lab} {w : World} {v : Value} {l l' : List Ac} {n : Nat} {rest : List AV} {vrest : List Value} (hpre : FM.Pre n L w) (hrep : Rep L w (some [0]) (.sl true 3 (l.map acA)) v) (hlen : l'.length = l.length) (hne : l ≠ []) (hn : n = rest.length + 1) (hl : vrest.length = rest.length)
    (hsh : ∀ (i : Nat) x u, rest[i]? = some x → vrest[i]? = some u → Rep L w (some [i + 1]) x u ∧ x.isOwn = false) :
    ∃ blk cap, v = .slice (some ⟨blk, 0, none⟩) l.length cap ∧ HoldsK encA 3 w blk 0 l.toArray ∧ blk < w.heap.size ∧ L blk = .my [0] ∧
      ∀ k os, ∃ L', FM.Back n (.sl true 3 (l'.map acA) :: rest) (.tup []) L w (v :: vrest) (.tuple #[]) (sortWorldK encA 3 w blk 0 k l'.toArray os) L' := by
  cases hl0 : l with
  | nil => exact absurd hl0 hne
  | cons x0 l0 =>
  rw [← hl0]
  generalize hxs : l.map acA = xs at hrep
  cases hrep with
  | slE h => rw [hl0] at hxs; cases hxs
  | @slO p c xs b cap arr e u hL hb hcap hsz hc hcell hr =>
    subst hxs
    have hbl : b < w.heap.size := (Array.getElem?_eq_some_iff.1 hb).1
    rw [List.length_map] at hcap hcell ⊢
    have hval : ∀ o, o < l.length * 3 → arr[o]? = some ((encA l.toArray[o / 3]!)[o % 3]!) := fun o ho => by
      have hi : o / 3 < l.length := by omega
      have h1 := hcell o ho
      have hx : (l.map acA)[o / 3]? = some (acA l[o / 3]) := by rw [List.getElem?_map, List.getElem?_eq_getElem hi]; rfl
      have e1 : l.toArray[o / 3]! = l[o / 3] := by rw [getElem!_pos l.toArray (o / 3) (by simpa using hi)]; simp
      rw [e1]
      have e2 : o / 3 * 3 + o % 3 = o := by omega
      have hm : o % 3 < (acA l[o / 3]).cells.length := by rw [cells_ac]; exact Nat.mod_lt _ (by decide)
      have hy : (acA l[o / 3]).cells[o % 3]? = some ((acA l[o / 3]).cells[o % 3]) := List.getElem?_eq_getElem hm
      have h2 := flat_get hc hx hy
      rw [e2] at h2
      rw [h1, enc_rep hy (hr o _ h2)]
    refine ⟨b, cap, rfl, fun j hj => ?_, hbl, hL, fun k os => ?_⟩
    · have hj' : j < l.length * 3 := by simpa using hj
      refine ⟨?_, ?_⟩
      · rw [cell_of_row w b (0 + j) arr e (0, 0) hb, Nat.zero_add, hval j hj', get_flatK _ _ _ _ (by simpa using hj')]; rfl
      · simp only [World.frozen?, hb]; simp
    · obtain ⟨W, hW⟩ : ∃ W, W = sortWorldK encA 3 w b 0 k l'.toArray os := ⟨_, rfl⟩
      rw [← hW]
      have hWs : W.heap.size = w.heap.size + os.size := by rw [hW]; simp [sortWorldK, putRowK, Go.Sort.grow, Go.Sort.putRow, Go.Sort.mapBlock, Go.Sort.ahead]
      have hWo : W.os = w.os := by rw [hW]; rfl
      have hWt : W.tape = w.tape := by rw [hW]; rfl
      have hWu : W.output = w.output := by rw [hW]; rfl
      have hWb : W.heap[b]? = some (.cells (Go.Sort.putCells id 0 (flatK encA 3 l'.toArray) arr) e (0, 0)) := by
        rw [hW]
        simp only [sortWorldK, putRowK, Go.Sort.grow, Go.Sort.putRow, Go.Sort.mapBlock, Go.Sort.ahead]
        rw [Array.getElem?_append_left (by simpa using hbl), Array.getElem?_modify, if_pos rfl, hb]; rfl
      have hWk : ∀ b', b' < w.heap.size → b' ≠ b → W.heap[b']? = w.heap[b']? := fun b' h1 h2 => by
        rw [hW]
        simp only [sortWorldK, putRowK, Go.Sort.grow, Go.Sort.putRow, Go.Sort.mapBlock, Go.Sort.ahead]
        rw [Array.getElem?_append_left (by simpa using h1), Array.getElem?_modify, if_neg (fun e => h2 e.symm)]
      clear hW
      refine ⟨L, ⟨hWo, hWt, hWu, by omega, fun b' h1 h2 => hWk b' h1 (fun e => by subst e; exact h2 _ hL)⟩, ⟨fun b' p hp => by have := hpre.lt b' p hp; omega, hpre.inj, fun b' p hp e => ?_, fun b' p _ hp => ⟨p, hp⟩, fun b' _ => Iff.rfl, fun b' h1 h2 => hpre.new b' (by omega) h2⟩, fun b' p hp => ?_, fun i x u' hx hu => ?_, .tup rfl fun i x v h => by simp at h⟩
      · subst e; obtain ⟨i, q, h, _⟩ := hpre.head b' [] hp; cases h
      · obtain ⟨i, q, h, h2⟩ := hpre.head b' p hp; exact ⟨i, q, h, by omega⟩
      · cases i with
        | zero =>
          simp only [List.getElem?_cons_zero, Option.some.injEq] at hx hu
          subst hx; subst hu
          have hsl : (l'.map acA).length = l.length := by rw [List.length_map, hlen]
          rw [← hsl]
          refine .slO (fun o => (flatK encA 3 l'.toArray)[o]!) hL hWb (by rw [hsl]; exact hcap) (by simp [Go.Sort.putCells, hsz]) ac_cells (fun o ho => ?_) fun o y hy => ?_
          · rw [hsl] at ho
            have hoa : o < arr.size := by rw [hsz]; exact Nat.lt_of_lt_of_le ho (Nat.mul_le_mul_right _ hcap)
            simp only [Go.Sort.putCells, Array.getElem?_mapIdx, Array.getElem?_eq_getElem hoa, Option.map_some]
            rw [if_pos ⟨Nat.zero_le _, by simp; omega⟩]; rfl
          · obtain ⟨i, j, x, h1, h2, h3, h4⟩ := flat_split ac_cells hy
            rw [List.getElem?_map, Option.map_eq_some_iff] at h1
            obtain ⟨z, hz, rfl⟩ := h1
            have hil : i < l'.length := (List.getElem?_eq_some_iff.1 hz).1
            have e1 : l'.toArray[o / 3]! = z := by
              rw [show o / 3 = i by omega, getElem!_pos l'.toArray i (by simpa using hil)]
              simp only [List.getElem_toArray]
              rw [List.getElem?_eq_getElem hil] at hz; exact Option.some.inj hz
            show Rep L W _ y (flatK encA 3 l'.toArray)[o]!
            rw [get_flatK _ _ _ _ (by simp; omega), e1, show o % 3 = j by omega]
            exact rep_enc h2
        | succ i =>
          simp only [List.getElem?_cons_succ] at hx hu
          obtain ⟨h1, h2⟩ := hsh i x u' hx hu
          refine (Rep.frame (by omega) hWo hWt hWu (fun b' hb' hlt => ⟨hb', hWk b' hlt (fun e => by subst e; rw [hL] at hb'; cases hb')⟩) (h1.replace (π' := none) h2) none (fun p hp => by cases hp)).any _
theorem srtA_ok : FnOk Sy.P 122 := ⟨_, Tryz.func122, rfl, rfl⟩
theorem acJ {S : FM.Sys} {N : Nat} {σ : FM.St} {l : List Ac} {t1 s d ty : Nat} {ops : Array Oper} {k : List Oper} {K : FM.St → Prop} {ts : Array Nat} {pos : String} {aft : Array Edge} {g : Option (Nat × Bool)} (hP : Sy.P = S.P) (hg : live ops g σ = some true)
    (h1 : slotAt σ (.tmp t1) = some s) (h2 : FM.get σ s = .av (.sl true 3 (l.map acA))) (hne : l ≠ []) (hlb : l.length ≤ 1000000) (h3 : Nat.beq s d = false)
    (h : J false S N ops k K (putM [(s, 0)] [.sl true 3 ((asort l).map acA), .dead] (σ.put d (.av (.tup []))))) :
    J false S N ops (⟨some d, .call ⟨.value (.func 122), #[.tmp t1, .func 123], ts⟩, ty, pos, aft, g⟩ :: k) K σ := by
  refine J.callMP (xs := [.func 123]) (op := .tmp t1) srtA_ok hP hg h1 h2 h3 (fun w0 L0 a w L hR hpre hrep => ?_) noSh_unit ⟨_, rfl, .sl fun x hx => ?_⟩ h
  · obtain ⟨blk, cap, hv, hH, hb, hL, hBk⟩ := back_rowA (l' := asort l) (n := 2) (rest := [.dead]) (vrest := [a.eval (.func 123)]) hpre hrep (asort_length l) hne rfl rfl (fun i x u hx hu => by
      match i with
      | 0 => simp only [List.getElem?_cons_zero, Option.some.injEq] at hx; subst hx; exact ⟨.dead, rfl⟩
      | i + 1 => simp at hx)
    have eg : ∀ args w, (callFunc 123 args).run Tryz.prog w = .ok (.enter 123 args) w := enters_of Tryz.func123 (by kernel_rfl) rfl
    have hcon := AnyQ.slices_SortFunc_eq lsa 3 Tryz.isAgg46 Tryz.sizeOf46 encA (fun _ => rfl) (fun x v hv => by simp [encA] at hv; rcases hv with rfl | rfl | rfl <;> rfl) cfA swoA 123 #[] blk 0 cap l.toArray w eg (fun m os dk _ x y => cmpA x y _) hH hb (by simp; omega)
    simp only [List.map_cons, List.map_nil, hv]
    rw [hv] at hBk
    have hsz : l.toArray.size = l.length := by simp
    rw [hsz] at hcon
    refine Calls.mono hcon fun e w' ⟨he, q, os, hw⟩ => ?_
    obtain ⟨L', hB'⟩ := hBk q os
    subst hw
    refine ⟨_, L', he, ?_⟩
    unfold asort at hB' ⊢
    exact hB'
  · obtain ⟨z, _, rfl⟩ := List.mem_map.1 hx
    exact noSh_aggL rfl
end Go.Proofs.YtkkcnppgcnmikaaGreatDoor
