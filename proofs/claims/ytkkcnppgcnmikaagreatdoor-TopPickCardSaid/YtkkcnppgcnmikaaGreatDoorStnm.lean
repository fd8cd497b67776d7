/- The library's sort of integers, as a call that turns what the caller owns. -/
import Derived.Test.YtkkcnppgcnmikaaGreatDoorFsnm
import Derived.Test.YtkkcnppgcnmikaaGreatDoorLanm
import Derived.Test.YtkkcnppgcnmikaaGreatDoorSlnm
namespace FM
open Go Go.RowKit
set_option linter.all false
/-- The frame behind a sort: the row holds l', some draws, some new blocks. -/
theorem back_row {L : Nat → Lab} {w : World} {v : Value} {l l' : List Int} {n : Nat} {rest : List AV} {vrest : List Value} (hpre : FM.Pre n L w) (hrep : Rep L w (some [0]) (.sl true 1 (l.map .int)) v) (hlen : l'.length = l.length) (hne : l ≠ []) (hn : n = rest.length + 1) (hl : vrest.length = rest.length)
    (hsh : ∀ (i : Nat) x u, rest[i]? = some x → vrest[i]? = some u → Rep L w (some [i + 1]) x u ∧ x.isOwn = false) :
    ∃ blk cap, v = .slice (some ⟨blk, 0, none⟩) l.length cap ∧ Go.Sort.Holds (Value.int .i64) w blk 0 l.toArray ∧ blk < w.heap.size ∧ L blk = .my [0] ∧
      ∀ k os, ∃ L', FM.Back n (.sl true 1 (l'.map .int) :: rest) (.tup []) L w (v :: vrest) (.tuple #[]) (Go.Sort.grow (Go.Sort.putRow (Value.int .i64) (Go.Sort.ahead w k) blk 0 l'.toArray) os) L' := by
  cases hl0 : l with
  | nil => exact absurd hl0 hne
  | cons x0 l0 =>
  rw [← hl0]
  generalize hxs : l.map AV.int = xs at hrep
  cases hrep with
  | slE h => rw [hl0] at hxs; cases hxs
  | @slO p c xs b cap arr e u hL hb hcap hsz hc hcell hr =>
    subst hxs
    have hbl : b < w.heap.size := (Array.getElem?_eq_some_iff.1 hb).1
    have hval : ∀ j, (hj : j < l.length) → arr[j]? = some (.int .i64 l[j]) := fun j hj => by
      have h1 := hcell j (by rw [List.length_map]; omega)
      have h2 := hr j (.int l[j]) (by rw [flat_single (fun x hx => by obtain ⟨y, _, rfl⟩ := List.mem_map.1 hx; rfl), List.getElem?_map, List.getElem?_eq_getElem hj]; rfl)
      rw [h1]
      generalize u j = z at h2
      cases h2; rfl
    rw [List.length_map] at hcap ⊢
    rw [Nat.mul_one] at hsz
    refine ⟨b, cap, rfl, fun j hj => ?_, hbl, hL, fun k os => ?_⟩
    · have hj' : j < l.length := by simpa using hj
      refine ⟨?_, ?_⟩
      · rw [cell_of_row w b (0 + j) arr e (0, 0) hb, Nat.zero_add, hval j hj']
        simp [hj']
      · simp only [World.frozen?, hb]; simp
    · obtain ⟨W, hW⟩ : ∃ W, W = Go.Sort.grow (Go.Sort.putRow (Value.int .i64) (Go.Sort.ahead w k) b 0 l'.toArray) os := ⟨_, rfl⟩
      rw [← hW]
      have hWs : W.heap.size = w.heap.size + os.size := by rw [hW]; simp [Go.Sort.grow, Go.Sort.putRow, Go.Sort.mapBlock, Go.Sort.ahead]
      have hWo : W.os = w.os := by rw [hW]; rfl
      have hWt : W.tape = w.tape := by rw [hW]; rfl
      have hWu : W.output = w.output := by rw [hW]; rfl
      have hWb : W.heap[b]? = some (.cells (Go.Sort.putCells (Value.int .i64) 0 l'.toArray arr) e (0, 0)) := by
        rw [hW]
        simp only [Go.Sort.grow, Go.Sort.putRow, Go.Sort.mapBlock, Go.Sort.ahead]
        rw [Array.getElem?_append_left (by simpa using hbl), Array.getElem?_modify, if_pos rfl, hb]; rfl
      have hWk : ∀ b', b' < w.heap.size → b' ≠ b → W.heap[b']? = w.heap[b']? := fun b' h1 h2 => by
        rw [hW]
        simp only [Go.Sort.grow, Go.Sort.putRow, Go.Sort.mapBlock, Go.Sort.ahead]
        rw [Array.getElem?_append_left (by simpa using h1), Array.getElem?_modify, if_neg (fun e => h2 e.symm)]
      clear hW
      have hLn : ∀ b', w.heap.size ≤ b' → ∀ p, L b' ≠ .my p := fun b' h p hp => by have := hpre.lt b' p hp; omega
      refine ⟨L, ⟨hWo, hWt, hWu, by omega, fun b' h1 h2 => hWk b' h1 (fun e => by subst e; exact h2 _ hL)⟩, ⟨fun b' p hp => by have := hpre.lt b' p hp; omega, hpre.inj, fun b' p hp e => ?_, fun b' p _ hp => ⟨p, hp⟩, fun b' _ => Iff.rfl, hpre.new⟩, fun b' p hp => ?_, fun i x u' hx hu => ?_, .tup rfl fun i x v h => by simp at h⟩
      · subst e; obtain ⟨i, q, h, _⟩ := hpre.head b' [] hp; cases h
      · obtain ⟨i, q, h, h2⟩ := hpre.head b' p hp; exact ⟨i, q, h, by omega⟩
      · cases i with
        | zero =>
          simp only [List.getElem?_cons_zero, Option.some.injEq] at hx hu
          subst hx; subst hu
          have hsl : (l'.map AV.int).length = l.length := by rw [List.length_map, hlen]
          rw [← hsl]
          refine .slO (fun o => .int .i64 (l'.getD o 0)) hL hWb (by rw [hsl]; exact hcap) (by simp [Go.Sort.putCells, hsz]) (fun y hy => by obtain ⟨z, _, rfl⟩ := List.mem_map.1 hy; rfl) (fun o ho => ?_) fun o y hy => ?_
          · rw [hsl, Nat.mul_one] at ho
            have ho2 : o < l'.length := by omega
            have hoa : o < arr.size := by omega
            simp only [Go.Sort.putCells, Array.getElem?_mapIdx, Array.getElem?_eq_getElem hoa, Option.map_some]
            rw [if_pos ⟨Nat.zero_le _, by simpa using ho2⟩]
            simp [ho2]
          · rw [flat_single (fun x hx => by obtain ⟨y, _, rfl⟩ := List.mem_map.1 hx; rfl), List.getElem?_map, Option.map_eq_some_iff] at hy
            obtain ⟨z, hz, rfl⟩ := hy
            rw [List.getD_eq_getElem?_getD, hz]; exact .int
        | succ i =>
          simp only [List.getElem?_cons_succ] at hx hu
          obtain ⟨h1, h2⟩ := hsh i x u' hx hu
          refine (Rep.frame (by omega) hWo hWt hWu (fun b' hb' hlt => ⟨hb', hWk b' hlt (fun e => by subst e; rw [hL] at hb'; cases hb')⟩) (h1.replace (π' := none) h2) none (fun p hp => by cases hp)).any _
/-- A sort of integers, from its contract. -/
theorem FnSpec.ofSort {P : Program} {f : Nat} (hf : FnOk P f)
    (hsome : ∀ (blk off cap : Nat) (zs : List Int) (w : World), Go.Sort.Holds (Value.int .i64) w blk off zs.toArray → blk < w.heap.size → zs.length < 4611686018427387904 →
      Calls P f #[.slice (some ⟨blk, off, none⟩) zs.length cap] w fun e w' => e = .returned (.tuple #[]) ∧ ∃ n os, w' = Go.Sort.grow (Go.Sort.putRow (Value.int .i64) (Go.Sort.ahead w n) blk off (zs.mergeSort fun x y => decide (x ≤ y)).toArray) os)
    (hnone : ∀ (p : Option Addr) (cap : Nat) (w : World), Calls P f #[.slice p 0 cap] w fun e w' => e = .returned (.tuple #[]) ∧ w' = w) (l : List Int) (hl : l.length < 4611686018427387904) :
    FnSpec P f [.sl true 1 (l.map .int)] [.sl true 1 ((l.mergeSort fun x y => decide (x ≤ y)).map .int)] (.tup []) := by
  refine ⟨hf, fun w L vs hvs hpre hargs => ?_⟩
  match vs, hvs with
  | [v], _ =>
  have hrep := hargs 0 _ v rfl rfl
  by_cases hne : l = []
  · subst hne
    have : ∃ a cap, v = .slice a 0 cap := sl_inv hrep
    obtain ⟨a, cap, rfl⟩ := this
    refine (hnone a cap w).mono fun e w' ⟨he, hw⟩ => ?_
    subst hw
    refine ⟨_, L, he, ⟨rfl, rfl, rfl, Nat.le_refl _, fun _ _ _ => rfl⟩, ⟨hpre.lt, hpre.inj, fun b' p hp e => ?_, fun b' p _ hp => ⟨p, hp⟩, fun b' _ => Iff.rfl, hpre.new⟩, fun b' p hp => ?_, fun i x u hx hu => ?_, .tup rfl fun i x v h => by simp at h⟩
    · subst e; obtain ⟨i, q, h, _⟩ := hpre.head b' [] hp; cases h
    · obtain ⟨i, q, h, h2⟩ := hpre.head b' p hp; exact ⟨i, q, h, Nat.le_of_lt h2⟩
    · have : ([] : List Int).mergeSort (fun x y => decide (x ≤ y)) = [] := by simp
      rw [this] at hx
      exact hargs i x u hx hu
  · obtain ⟨blk, cap, hv, hH, hb, _, hB⟩ := back_row (l' := l.mergeSort fun x y => decide (x ≤ y)) (rest := []) (vrest := []) hpre hrep (List.length_mergeSort _) hne rfl rfl (fun i x u h => by simp at h)
    rw [hv]
    refine (hsome blk 0 cap l w hH hb hl).mono fun e w' ⟨he, n, os, hw⟩ => ?_
    subst hw
    obtain ⟨L', hB⟩ := hB n os
    rw [hv] at hB
    exact ⟨_, L', he, hB⟩
end FM
namespace Go.Proofs.YtkkcnppgcnmikaaGreatDoor
open Go FM
set_option linter.all false
abbrev srt (l : List Int) : List Int := l.mergeSort fun x y => decide (x ≤ y)
theorem sort_ok : FnOk Sy.P 24 := ⟨_, Tryz.func24, rfl, rfl⟩
theorem sort_spec (l : List Int) (hl : l.length < 4611686018427387904) : FnSpec Sy.P 24 [.sl true 1 ((l).map .int)] [.sl true 1 ((srt l).map .int)] (.tup []) :=
  FnSpec.ofSort sort_ok (fun blk off cap zs w h1 h2 h3 => AnyM.slices_Sort_int lsort blk off cap zs w h1 h2 h3) (fun p cap w => AnyM.slices_Sort_int_none lsort p cap w) l hl
end Go.Proofs.YtkkcnppgcnmikaaGreatDoor
