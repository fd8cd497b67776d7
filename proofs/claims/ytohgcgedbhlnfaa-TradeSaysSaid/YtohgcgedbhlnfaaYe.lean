/- Trades: what the reference's closure captured, in whatever world holds it. -/
import Derived.Test.YtohgcgedbhlnfaaDm
import Derived.Test.YtohgcgedbhlnfaaYa
namespace Go.Proofs.Ytohgcgedbhlnfaa
open Go Go.Proofs Go.Shelf Go.RowKit Go.Lib Go.Sort FM
set_option maxRecDepth 10000
set_option maxHeartbeats 1600000
set_option linter.all false
theorem gives3 (zs : List Int) (y : Int) (B O b off cap : Nat) (W : World) (hc : W.cell? ⟨B, O, none⟩ = some (.slice (some ⟨b, off, none⟩) zs.length cap)) (hz : ∀ j, j < zs.length → W.cell? ⟨b, off + j, none⟩ = some (.int .i64 zs[j]!)) (hbig : zs.length ≤ 9223372036854775807) :
    FnGives Try.prog 91 #[.pointer (some ⟨B, O, none⟩)] #[.int .i64 y] (.bool (zs.any fun z => y == z)) W := by
  show Calls Try.prog 91 #[.int .i64 y, .pointer (some ⟨B, O, none⟩)] W _
  have hcon := fun q => AnyE.slices_Contains lcon (Value.int .i64) (fun x y => x == y) (EqlAt.int _ _ _) b off zs.length cap zs y (W.drewN q) (Nat.le_refl _) hbig hz
  rw [List.take_length] at hcon
  change ∀ q, Calls Try.prog 88 _ _ _ at hcon
  generalize (zs.any fun z => y == z) = r at *
  go_enter Try.func91, Try.ntmps91
  go_wp2_with (go_at_call 88; refine (hcon 0).mono ?_; rintro e w' ⟨rfl, rfl⟩)
  all_goals (go_ret; exact ⟨by simp_all, 0, rfl⟩)
theorem shr_ints {L : Nat → Lab} {w : World} {π : Option (List Nat)} {l : List Int} {u : Value} (h : Rep L w π (.sl false 1 (l.map .int)) u) (hne : l ≠ []) :
    ∃ b off cap, u = .slice (some ⟨b, off, none⟩) l.length cap ∧ L b = .sh ∧ b < w.heap.size ∧ ∀ j, (hj : j < l.length) → w.cell? ⟨b, off + j, none⟩ = some (.int .i64 l[j]) := by
  generalize hxs : l.map AV.int = xs at h
  cases h with
  | slE h => exfalso; apply hne; cases l with
    | nil => rfl
    | cons a r => cases hxs
  | @slS π c xs b off cap u hcap hL hb hc hcell hr =>
    subst hxs
    rw [List.length_map]
    refine ⟨b, off, cap, rfl, hL, hb, fun j hj => ?_⟩
    have h1 := hcell j (by rw [List.length_map]; omega)
    have h2 := hr j (.int l[j]) (by rw [flat_single (fun x hx => by obtain ⟨y, _, rfl⟩ := List.mem_map.1 hx; rfl), List.getElem?_map, List.getElem?_eq_getElem hj]; rfl)
    rw [h1]
    generalize u j = z at h2
    cases h2; rfl
theorem cell_sortW {w : World} {blk n B j : Nat} {dk : Array Int} {os : Array Obj} {u : Value} (hB : B < w.heap.size) (hne : B ≠ blk) (h : w.cell? ⟨B, j, none⟩ = some u) : (Go.Proofs.sortWorld (Value.int .i64) w blk 0 n dk os).cell? ⟨B, j, none⟩ = some u := by
  unfold Go.Proofs.sortWorld
  rw [Go.Sort.cell?_grow _ _ _ (by show B < (Go.Sort.putRow _ _ _ _ _).heap.size; rw [Go.Sort.size_putRow]; exact hB), Go.Sort.cell?_putRow_other _ _ blk 0 _ _ (Or.inl hne)]
  exact h
theorem pred3 {S : FM.Sys} {N : Nat} {σ : FM.St} {R : List Int} {w0 : World} {L0 : Nat → Lab} {a : Act} {w : World} {L : Nat → Lab} {s c blk : Nat} (hR : RelL S w0 L0 N σ a w L) (h5 : FM.get σ c = .av (.pt false [.sl false 1 (R.map .int)])) (hne : R ≠ []) (hl : R.length ≤ 9223372036854775807) (hb : L blk = .my [s]) (sz : Nat) :
    PredAt Try.prog 91 ([c].map fun s => a.tmps.getD s undef).toArray (Value.int .i64) (fun y => R.any fun z => y == z) w ∧ PredOver Try.prog 91 ([c].map fun s => a.tmps.getD s undef).toArray (Value.int .i64) (fun y => R.any fun z => y == z) blk 0 sz w := by
  have hh := hR.hold c (own_lt hR h5 (by simp))
  rw [h5] at hh
  simp only [Hold] at hh
  generalize hpv : a.tmps.getD c undef = pv at hh
  cases hh with
  | @ptS π cs B O u hLB hlt hcell hr =>
    have hru := hr 0 _ rfl
    have hu := hcell 0 (by simp)
    rw [Nat.add_zero] at hu
    obtain ⟨b, off, cap, hub, hLb, hbl, hcells⟩ := shr_ints hru hne
    rw [hub] at hu
    have e1 : B ≠ blk := fun e => by subst e; rw [hLB] at hb; cases hb
    have e2 : b ≠ blk := fun e => by subst e; rw [hLb] at hb; cases hb
    simp only [List.map_cons, List.map_nil, hpv]
    refine ⟨fun W y hbel => ?_, fun k os dk y hsz => ?_⟩
    · refine gives3 R y B O b off cap W ((hbel.cell (p := ⟨B, O, none⟩) hlt).trans hu) (fun j hj => ?_) hl
      rw [getElem!_pos R j hj]
      exact (hbel.cell (p := ⟨b, off + j, none⟩) hbl).trans (hcells j hj)
    · refine gives3 R y B O b off cap _ (cell_sortW hlt e1 hu) (fun j hj => ?_) hl
      rw [getElem!_pos R j hj]
      exact cell_sortW hbl e2 (hcells j hj)
end Go.Proofs.Ytohgcgedbhlnfaa
