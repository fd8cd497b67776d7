/- The reference's rounds: what the closures captured. -/
import Derived.Test.YtjhkeilampkihaaDm
import Derived.Test.YtjhkeilampkihaaRr
import Derived.Test.YtjhkeilampkihaaAo
namespace Go.Proofs.Ytjhkeilampkihaa
open Go FM Go.Proofs
set_option maxRecDepth 10000
set_option maxHeartbeats 1600000
set_option linter.all false
theorem own_ints {L : Nat → Lab} {w : World} {p : List Nat} {l : List Int} {u : Value} (h : Rep L w (some p) (.sl true 1 (l.map .int)) u) (hne : l ≠ []) :
    ∃ b cap, u = .slice (some ⟨b, 0, none⟩) l.length cap ∧ L b = .my p ∧ b < w.heap.size ∧ ∀ j, (hj : j < l.length) → w.cell? ⟨b, j, none⟩ = some (.int .i64 l[j]) := by
  generalize hxs : l.map AV.int = xs at h
  cases h with
  | slE h => exfalso; apply hne; cases l with
    | nil => rfl
    | cons a r => cases hxs
  | @slO p c xs b cap arr e u hL hb hcap hsz hc hcell hr =>
    subst hxs
    rw [List.length_map]
    refine ⟨b, cap, rfl, hL, (Array.getElem?_eq_some_iff.1 hb).1, fun j hj => ?_⟩
    have h1 := hcell j (by rw [List.length_map]; omega)
    have h2 := hr j (.int l[j]) (by rw [flat_single (fun x hx => by obtain ⟨y, _, rfl⟩ := List.mem_map.1 hx; rfl), List.getElem?_map, List.getElem?_eq_getElem hj]; rfl)
    rw [cell_of_row w b j arr e (0, 0) hb, h1]
    generalize u j = z at h2
    cases h2; rfl
theorem cell_sortWorld {w : World} {blk n B j : Nat} {dk : Array Int} {os : Array Obj} {u : Value} (hB : B < w.heap.size) (hne : B ≠ blk) (h : w.cell? ⟨B, j, none⟩ = some u) : (Go.Proofs.sortWorld (Value.int .i64) w blk 0 n dk os).cell? ⟨B, j, none⟩ = some u := by
  unfold Go.Proofs.sortWorld
  rw [Go.Sort.cell?_grow _ _ _ (by show B < (Go.Sort.putRow _ _ _ _ _).heap.size; rw [Go.Sort.size_putRow]; exact hB), Go.Sort.cell?_putRow_other _ _ blk 0 _ _ (Or.inl hne)]
  exact h
theorem pred1 {S : FM.Sys} {N : Nat} {σ : FM.St} {left : List Int} {w0 : World} {L0 : Nat → Lab} {a : Act} {w : World} {L : Nat → Lab} {s c blk : Nat} (hR : RelL S w0 L0 N σ a w L) (h5 : FM.get σ c = .av (.pt true [.sl true 1 (left.map .int)])) (hne : left ≠ []) (hl : left.length ≤ 9223372036854775807) (hs : s ≠ c) (hb : L blk = .my [s]) (sz : Nat) :
    PredAt Try.prog 137 ([c].map fun s => a.tmps.getD s undef).toArray (Value.int .i64) (fun y => !(left.any fun z => y == z)) w ∧ PredOver Try.prog 137 ([c].map fun s => a.tmps.getD s undef).toArray (Value.int .i64) (fun y => !(left.any fun z => y == z)) blk 0 sz w := by
  have hh := hR.hold c (own_lt hR h5 (by simp))
  rw [h5] at hh
  simp only [Hold] at hh
  obtain ⟨B, hLB, hpv, hlt, hc⟩ := pt_at hh
  obtain ⟨u, hu, hru⟩ := hc 0 _ rfl
  obtain ⟨b, cap, hub, hLb, hbl, hcells⟩ := own_ints hru hne
  subst hub
  have e1 : B ≠ blk := fun e => by subst e; rw [hLB] at hb; cases hb; exact hs rfl
  have e2 : b ≠ blk := fun e => by subst e; rw [hLb] at hb; simp at hb
  simp only [List.map_cons, List.map_nil, hpv]
  refine ⟨fun W y hbel => ?_, fun k os dk y hsz => ?_⟩
  · refine gives1 left y B b cap W ((hbel.cell (p := ⟨B, 0, none⟩) hlt).trans hu) (fun j hj => ?_) hl
    rw [Nat.zero_add, getElem!_pos left j hj]
    exact (hbel.cell (p := ⟨b, j, none⟩) hbl).trans (hcells j hj)
  · refine gives1 left y B b cap _ (cell_sortWorld hlt e1 hu) (fun j hj => ?_) hl
    rw [Nat.zero_add, getElem!_pos left j hj]
    exact cell_sortWorld hbl e2 (hcells j hj)
theorem pred2 {S : FM.Sys} {N : Nat} {σ : FM.St} {z : Int} {w0 : World} {L0 : Nat → Lab} {a : Act} {w : World} {L : Nat → Lab} {s c blk : Nat} (hR : RelL S w0 L0 N σ a w L) (h5 : FM.get σ c = .av (.pt true [.int z])) (hs : s ≠ c) (hb : L blk = .my [s]) (sz : Nat) :
    PredAt Try.prog 138 ([c].map fun s => a.tmps.getD s undef).toArray (Value.int .i64) (fun y => y == z) w ∧ PredOver Try.prog 138 ([c].map fun s => a.tmps.getD s undef).toArray (Value.int .i64) (fun y => y == z) blk 0 sz w := by
  have hh := hR.hold c (own_lt hR h5 (by simp))
  rw [h5] at hh
  simp only [Hold] at hh
  obtain ⟨B, hLB, hpv, hlt, hc⟩ := pt_at hh
  obtain ⟨u, hu, hru⟩ := hc 0 _ rfl
  cases hru
  have e1 : B ≠ blk := fun e => by subst e; rw [hLB] at hb; cases hb; exact hs rfl
  simp only [List.map_cons, List.map_nil, hpv]
  exact ⟨fun W y hbel => gives2 z y B W ((hbel.cell (p := ⟨B, 0, none⟩) hlt).trans hu), fun k os dk y hsz => gives2 z y B _ (cell_sortWorld hlt e1 hu)⟩
end Go.Proofs.Ytjhkeilampkihaa
