/- The library's sort of ratios, as a call that turns what the caller owns. -/
import Derived.Test.YtohgcgedbhlnfaaMz
import Derived.Test.YtohgcgedbhlnfaaLr
import Derived.Test.YtohgcgedbhlnfaaLq
import Derived.Test.YtohgcgedbhlnfaaCm
import Derived.Shelf.SlSortCmp.WholeK
import Derived.Lib.SliceRun
import Derived.Deep.QuietTactic
import Derived.BigQuiet
namespace Go.Proofs.Ytohgcgedbhlnfaa
open Go FM Go.Proofs Go.Shelf Go.RowKit Go.Lib Go.Sort
set_option maxRecDepth 10000
set_option maxHeartbeats 1600000
set_option linter.all false
/-- A place, as the row holds it. -/
abbrev RT := { f : Int × Int // okF f }
instance : Inhabited RT := ⟨⟨(0, 1), by unfold okF; decide⟩⟩
def encR (x : RT) : List Value := [.int .i64 x.1.1, .int .i64 x.1.2]
abbrev rtA (x : RT) : AV := .agg [.int x.1.1, .int x.1.2]
def cfR (x y : RT) : Int := x.1.1 * y.1.2 - y.1.1 * x.1.2
theorem swoR : SWO (ltOf cfR) := by
  refine ⟨fun x => ?_, fun x y z h1 h2 => ?_, fun x y z h1 h2 => ?_⟩ <;> unfold ltOf cfR at * <;> simp only [decide_eq_true_eq, decide_eq_false_iff_not] at *
  · omega
  · have := cross_lt x.2.2.2.1 y.2.2.2.1 z.2.2.2.1 (show x.1.1 * y.1.2 < y.1.1 * x.1.2 by omega) (show y.1.1 * z.1.2 ≤ z.1.1 * y.1.2 by omega)
    omega
  · have := cross_le z.2.2.2.1 y.2.2.2.1 x.2.2.2.1 (show z.1.1 * y.1.2 ≤ y.1.1 * z.1.2 by omega) (show y.1.1 * x.1.2 ≤ x.1.1 * y.1.2 by omega)
    omega
def rsort (l : List RT) : List RT := (pdq (ltOf cfR) l.toArray 0 l.length (Lib.bitLen l.length) true true).toList
theorem rsort_spec (l : List RT) : (rsort l).Perm l ∧ (rsort l).Pairwise (fun x y => ¬ y.1.1 * x.1.2 < x.1.1 * y.1.2) := by
  obtain ⟨⟨h1, _, h2⟩, h3⟩ := pdq_sorts (ltOf cfR) swoR l.toArray 0 l.length (Lib.bitLen l.length) true true (Nat.zero_le _) (by simp) (Or.inl rfl)
  unfold rsort
  generalize pdq (ltOf cfR) l.toArray 0 l.length (Lib.bitLen l.length) true true = d at *
  have hs : d.size = l.length := by simpa using h1
  refine ⟨?_, ?_⟩
  · have e1 : d.extract 0 l.length = d := by rw [← hs]; exact Array.extract_size
    have e2 : l.toArray.extract 0 l.length = l.toArray := by have := Array.extract_size (xs := l.toArray); simpa using this
    rw [e1, e2] at h2
    simpa using h2
  · rw [List.pairwise_iff_getElem]
    intro i j hi hj hij
    have hi' : i < d.size := by simpa using hi
    have hj' : j < d.size := by simpa using hj
    have := h3 i j (Nat.zero_le _) hij (by omega)
    rw [getElem!_pos d i hi', getElem!_pos d j hj'] at this
    unfold ltOf cfR at this
    simp only [decide_eq_false_iff_not] at this
    simp only [Array.getElem_toList]
    omega
theorem rsort_length (l : List RT) : (rsort l).length = l.length := (rsort_spec l).1.length_eq
theorem cmpR (x y : RT) (W : World) : Calls Try.prog 80 #[.agg (encR x).toArray, .agg (encR y).toArray] W fun e w' => e = .returned (.int .i64 (cfR x y)) ∧ ∃ q os, w' = grow (W.drewN q) os := by
  obtain ⟨⟨a, b⟩, hx⟩ := x
  obtain ⟨⟨c, d⟩, hy⟩ := y
  unfold okF at hx hy
  simp only at hx hy
  have m1 := mulB (a := 4000) (b := 4000) (x := a) (y := d) (by omega) (by omega) (by decide)
  have m2 := mulB (a := 4000) (b := 4000) (x := c) (y := b) (by omega) (by omega) (by decide)
  have w1 : IntKind.i64.wrap (a * d) = a * d := IntWalk.i64_in _ (by omega)
  have w2 : IntKind.i64.wrap (c * b) = c * b := IntWalk.i64_in _ (by omega)
  have w3 : IntKind.i64.wrap (a * d - c * b) = a * d - c * b := IntWalk.i64_in _ (by omega)
  show Calls Try.prog _ #[.agg #[.int .i64 a, .int .i64 b], .agg #[.int .i64 c, .int .i64 d]] W fun e w' => e = .returned (.int .i64 (a * d - c * b)) ∧ _
  go_enter Try.func80, Try.ntmps80
  go_wp2
  go_ret
  refine ⟨rfl, 0, ?_⟩
  rw [alloc_eq_grow, alloc_eq_grow, grow_grow]
  exact ⟨_, rfl⟩
theorem cells_rt (x : RT) : (rtA x).cells = [.int x.1.1, .int x.1.2] := rfl
theorem enc_get (x : RT) : (encR x)[0]! = .int .i64 x.1.1 ∧ (encR x)[1]! = .int .i64 x.1.2 := ⟨rfl, rfl⟩
/-- The frame behind a sort of ratios: the row holds l', some draws, some new blocks. -/
theorem back_rowR {L : Nat → Lab} {w : World} {v : Value} {l l' : List RT} {n : Nat} {rest : List AV} {vrest : List Value} (hpre : FM.Pre n L w) (hrep : Rep L w (some [0]) (.sl true 2 (l.map rtA)) v) (hlen : l'.length = l.length) (hne : l ≠ []) (hn : n = rest.length + 1) (hl : vrest.length = rest.length)
    (hsh : ∀ (i : Nat) x u, rest[i]? = some x → vrest[i]? = some u → Rep L w (some [i + 1]) x u ∧ x.isOwn = false) :
    ∃ blk cap, v = .slice (some ⟨blk, 0, none⟩) l.length cap ∧ HoldsK encR 2 w blk 0 l.toArray ∧ blk < w.heap.size ∧ L blk = .my [0] ∧
      ∀ k os, ∃ L', FM.Back n (.sl true 2 (l'.map rtA) :: rest) (.tup []) L w (v :: vrest) (.tuple #[]) (sortWorldK encR 2 w blk 0 k l'.toArray os) L' := by
  cases hl0 : l with
  | nil => exact absurd hl0 hne
  | cons x0 l0 =>
  rw [← hl0]
  generalize hxs : l.map rtA = xs at hrep
  cases hrep with
  | slE h => rw [hl0] at hxs; cases hxs
  | @slO p c xs b cap arr e u hL hb hcap hsz hc hcell hr =>
    subst hxs
    have hbl : b < w.heap.size := (Array.getElem?_eq_some_iff.1 hb).1
    rw [List.length_map] at hcap hcell ⊢
    have hval : ∀ o, o < l.length * 2 → arr[o]? = some ((encR l.toArray[o / 2]!)[o % 2]!) := fun o ho => by
      have hi : o / 2 < l.length := by omega
      have h1 := hcell o ho
      have hx : (l.map rtA)[o / 2]? = some (rtA l[o / 2]) := by rw [List.getElem?_map, List.getElem?_eq_getElem hi]; rfl
      have e1 : l.toArray[o / 2]! = l[o / 2] := by rw [getElem!_pos l.toArray (o / 2) (by simpa using hi)]; simp
      rw [e1]
      have e2 : o / 2 * 2 + o % 2 = o := by omega
      rw [h1]
      rcases Nat.mod_two_eq_zero_or_one o with hm | hm
      · have h2 := hr o (.int l[o / 2].1.1) (by have := flat_get hc hx (j := 0) (y := .int l[o / 2].1.1) rfl; rw [show o / 2 * 2 + 0 = o by omega] at this; exact this)
        rw [hm]
        generalize u o = z at h2
        cases h2; rfl
      · have h2 := hr o (.int l[o / 2].1.2) (by have := flat_get hc hx (j := 1) (y := .int l[o / 2].1.2) rfl; rw [show o / 2 * 2 + 1 = o by omega] at this; exact this)
        rw [hm]
        generalize u o = z at h2
        cases h2; rfl
    refine ⟨b, cap, rfl, fun j hj => ?_, hbl, hL, fun k os => ?_⟩
    · have hj' : j < l.length * 2 := by simpa using hj
      refine ⟨?_, ?_⟩
      · rw [cell_of_row w b (0 + j) arr e (0, 0) hb, Nat.zero_add, hval j hj', get_flatK _ _ _ _ (by simpa using hj')]; rfl
      · simp only [World.frozen?, hb]; simp
    · obtain ⟨W, hW⟩ : ∃ W, W = sortWorldK encR 2 w b 0 k l'.toArray os := ⟨_, rfl⟩
      rw [← hW]
      have hWs : W.heap.size = w.heap.size + os.size := by rw [hW]; simp [sortWorldK, putRowK, Go.Sort.grow, Go.Sort.putRow, Go.Sort.mapBlock, Go.Sort.ahead]
      have hWo : W.os = w.os := by rw [hW]; rfl
      have hWt : W.tape = w.tape := by rw [hW]; rfl
      have hWu : W.output = w.output := by rw [hW]; rfl
      have hWb : W.heap[b]? = some (.cells (Go.Sort.putCells id 0 (flatK encR 2 l'.toArray) arr) e (0, 0)) := by
        rw [hW]
        simp only [sortWorldK, putRowK, Go.Sort.grow, Go.Sort.putRow, Go.Sort.mapBlock, Go.Sort.ahead]
        rw [Array.getElem?_append_left (by simpa using hbl), Array.getElem?_modify, if_pos rfl, hb]; rfl
      have hWk : ∀ b', b' < w.heap.size → b' ≠ b → W.heap[b']? = w.heap[b']? := fun b' h1 h2 => by
        rw [hW]
        simp only [sortWorldK, putRowK, Go.Sort.grow, Go.Sort.putRow, Go.Sort.mapBlock, Go.Sort.ahead]
        rw [Array.getElem?_append_left (by simpa using h1), Array.getElem?_modify, if_neg (fun e => h2 e.symm)]
      clear hW
      refine ⟨L, ⟨hWo, hWt, hWu, by omega, fun b' h1 h2 => hWk b' h1 (fun e => by subst e; exact h2 _ hL)⟩, ⟨fun b' p hp => by have := hpre.lt b' p hp; omega, hpre.inj, fun b' p hp e => ?_, fun b' p _ hp => ⟨p, hp⟩, fun b' _ => Iff.rfl, fun b' h1 h2 => hpre.new b' (by omega) h2⟩, fun b' p hp => ?_, fun i x u' hx hu => ?_, .tup rfl fun i x v h => by simp at h⟩
      · subst e; obtain ⟨i, q, h, _⟩ := hpre.head b' [] hp; cases h
      · obtain ⟨i, q, h, h2⟩ := hpre.head b' p hp; exact ⟨i, q, h, by omega⟩
      · cases i with
        | zero =>
          simp only [List.getElem?_cons_zero, Option.some.injEq] at hx hu
          subst hx; subst hu
          have hsl : (l'.map rtA).length = l.length := by rw [List.length_map, hlen]
          have hc2 : ∀ x ∈ l'.map rtA, x.cells.length = 2 := fun x hx => by obtain ⟨z, _, rfl⟩ := List.mem_map.1 hx; rfl
          rw [← hsl]
          refine .slO (fun o => (flatK encR 2 l'.toArray)[o]!) hL hWb (by rw [hsl]; exact hcap) (by simp [Go.Sort.putCells, hsz]) hc2 (fun o ho => ?_) fun o y hy => ?_
          · rw [hsl] at ho
            have hoa : o < arr.size := by rw [hsz]; exact Nat.lt_of_lt_of_le ho (Nat.mul_le_mul_right _ hcap)
            simp only [Go.Sort.putCells, Array.getElem?_mapIdx, Array.getElem?_eq_getElem hoa, Option.map_some]
            rw [if_pos ⟨Nat.zero_le _, by simp; omega⟩]; rfl
          · obtain ⟨i, j, x, h1, h2, h3, h4⟩ := flat_split hc2 hy
            rw [List.getElem?_map, Option.map_eq_some_iff] at h1
            obtain ⟨z, hz, rfl⟩ := h1
            have hil : i < l'.length := (List.getElem?_eq_some_iff.1 hz).1
            have e1 : l'.toArray[o / 2]! = z := by
              rw [show o / 2 = i by omega, getElem!_pos l'.toArray i (by simpa using hil)]
              simp only [List.getElem_toArray]
              rw [List.getElem?_eq_getElem hil] at hz; exact Option.some.inj hz
            show Rep L W _ y (flatK encR 2 l'.toArray)[o]!
            rw [get_flatK _ _ _ _ (by simp; omega), e1]
            match j, h2, h4, h3 with
            | 0, h2, _, h3 =>
              rw [show o % 2 = 0 by omega]
              simp only [cells_rt, List.getElem?_cons_zero, Option.some.injEq] at h2
              subst h2; exact .int
            | 1, h2, _, h3 =>
              rw [show o % 2 = 1 by omega]
              simp only [cells_rt, List.getElem?_cons_succ, List.getElem?_cons_zero, Option.some.injEq] at h2
              subst h2; exact .int
        | succ i =>
          simp only [List.getElem?_cons_succ] at hx hu
          obtain ⟨h1, h2⟩ := hsh i x u' hx hu
          refine (Rep.frame (by omega) hWo hWt hWu (fun b' hb' hlt => ⟨hb', hWk b' hlt (fun e => by subst e; rw [hL] at hb'; cases hb')⟩) (h1.replace (π' := none) h2) none (fun p hp => by cases hp)).any _
theorem srtR_ok : FnOk Sy.P 79 := ⟨_, Try.func79, rfl, rfl⟩
theorem ratJ {S : FM.Sys} {N : Nat} {σ : FM.St} {l : List RT} {t1 s d ty : Nat} {ops : Array Oper} {k : List Oper} {K : FM.St → Prop} {ts : Array Nat} {pos : String} {aft : Array Edge} {g : Option (Nat × Bool)} (hP : Sy.P = S.P) (hg : live ops g σ = some true)
    (h1 : slotAt σ (.tmp t1) = some s) (h2 : FM.get σ s = .av (.sl true 2 (l.map rtA))) (hne : l ≠ []) (hlb : l.length ≤ 1000000) (h3 : Nat.beq s d = false)
    (h : J false S N ops k K (putM [(s, 0)] [.sl true 2 ((rsort l).map rtA), .dead] (σ.put d (.av (.tup []))))) :
    J false S N ops (⟨some d, .call ⟨.value (.func 79), #[.tmp t1, .func 80], ts⟩, ty, pos, aft, g⟩ :: k) K σ := by
  refine J.callMP (xs := [.func 80]) (op := .tmp t1) srtR_ok hP hg h1 h2 h3 (fun w0 L0 a w L hR hpre hrep => ?_) noSh_unit ⟨_, rfl, .sl fun x hx => ?_⟩ h
  · obtain ⟨blk, cap, hv, hH, hb, hL, hBk⟩ := back_rowR (l' := rsort l) (n := 2) (rest := [.dead]) (vrest := [a.eval (.func 80)]) hpre hrep (rsort_length l) hne rfl rfl (fun i x u hx hu => by
      match i with
      | 0 => simp only [List.getElem?_cons_zero, Option.some.injEq] at hx; subst hx; exact ⟨.dead, rfl⟩
      | i + 1 => simp at hx)
    have eg : ∀ args w, (callFunc 80 args).run Try.prog w = .ok (.enter 80 args) w := enters_of Try.func80 (by kernel_rfl) rfl
    have hcon := AnyQ.slices_SortFunc_eq lsr 2 Try.isAgg35 Try.sizeOf35 encR (fun _ => rfl) (fun x v hv => by simp [encR] at hv; rcases hv with rfl | rfl <;> rfl) cfR swoR 80 #[] blk 0 cap l.toArray w eg (fun m os dk _ x y => cmpR x y _) hH hb (by simp; omega)
    simp only [List.map_cons, List.map_nil, hv]
    rw [hv] at hBk
    have hsz : l.toArray.size = l.length := by simp
    rw [hsz] at hcon
    refine Calls.mono hcon fun e w' ⟨he, q, os, hw⟩ => ?_
    obtain ⟨L', hB'⟩ := hBk q os
    subst hw
    refine ⟨_, L', he, ?_⟩
    unfold rsort at hB' ⊢
    exact hB'
  · obtain ⟨z, _, rfl⟩ := List.mem_map.1 hx
    exact noSh_aggL rfl
end Go.Proofs.Ytohgcgedbhlnfaa
