/- The test of the law's deletion, in whatever world holds what it captured. -/
import Derived.Test.YtohgcgedbhlnfaaDm
import Derived.Test.YtohgcgedbhlnfaaDz
namespace Go.Proofs.Ytohgcgedbhlnfaa
open Go FM Go.Proofs Go.Shelf Go.RowKit Go.Lib Go.Sort
set_option maxRecDepth 10000
set_option maxHeartbeats 1600000
set_option linter.all false
theorem gives3 (x x0 x1 : Int) (B b off cap : Nat) (W : World) (hc : W.cell? ⟨B, 0, none⟩ = some (.slice (some ⟨b, off, none⟩) 2 cap)) (h0 : W.cell? ⟨b, off, none⟩ = some (.int .i64 x0)) (h1 : W.cell? ⟨b, off + 1, none⟩ = some (.int .i64 x1)) :
    FnGives Try.prog 13 #[.pointer (some ⟨B, 0, none⟩)] #[.int .i64 x] (.bool (decide (x = x0 ∨ x = x1))) W := by
  show Calls Try.prog 13 #[.int .i64 x, .pointer (some ⟨B, 0, none⟩)] W _
  by_cases e0 : x = x0
  · rw [decide_eq_true (Or.inl e0)]
    subst e0
    go_enter Try.func13, Try.ntmps13
    go_wp2
    all_goals (go_ret; exact ⟨by simp_all, 0, rfl⟩)
  · by_cases e1 : x = x1
    · rw [decide_eq_true (Or.inr e1)]
      subst e1
      go_enter Try.func13, Try.ntmps13
      go_wp2
      all_goals (go_ret; exact ⟨by simp_all, 0, rfl⟩)
    · rw [decide_eq_false (fun h => h.elim e0 e1)]
      go_enter Try.func13, Try.ntmps13
      go_wp2
      all_goals (go_ret; exact ⟨by simp_all, 0, rfl⟩)
theorem shRow {L : Nat → Lab} {w : World} {π : Option (List Nat)} {l : List Int} {u : Value} (h : Rep L w π (.sl false 1 (l.map .int)) u) (hne : l ≠ []) :
    ∃ b off cap, u = .slice (some ⟨b, off, none⟩) l.length cap ∧ L b = .sh ∧ b < w.heap.size ∧ ∀ j, (hj : j < l.length) → w.cell? ⟨b, off + j, none⟩ = some (.int .i64 l[j]) := by
  generalize hxs : l.map AV.int = xs at h
  cases h with
  | slE h => exfalso; apply hne; cases l with
    | nil => rfl
    | cons a r => cases hxs
  | @slS _ c xs b off cap uu hcap hL hb hc hcell hr =>
    subst hxs
    rw [List.length_map]
    refine ⟨b, off, cap, rfl, hL, hb, fun j hj => ?_⟩
    have h1 := hcell j (by rw [List.length_map]; omega)
    have h2 := hr j (.int l[j]) (by rw [flat_single (fun x hx => by obtain ⟨y, _, rfl⟩ := List.mem_map.1 hx; rfl), List.getElem?_map, List.getElem?_eq_getElem hj]; rfl)
    rw [h1]
    generalize uu j = z at h2
    cases h2; rfl
theorem cellSort {blk n B j : Nat} {dk : Array Int} {os : Array Obj} {u : Value} {w : World} (hB : B < w.heap.size) (hne : B ≠ blk) (h : w.cell? ⟨B, j, none⟩ = some u) : (Go.Proofs.sortWorld (Value.int .i64) w blk 0 n dk os).cell? ⟨B, j, none⟩ = some u := by
  unfold Go.Proofs.sortWorld
  rw [Go.Sort.cell?_grow _ _ _ (by show B < (Go.Sort.putRow _ _ _ _ _).heap.size; rw [Go.Sort.size_putRow]; exact hB), Go.Sort.cell?_putRow_other _ _ blk 0 _ _ (Or.inl hne)]
  exact h
theorem pred3 {S : FM.Sys} {N : Nat} {σ : FM.St} {r : List Int} {w0 : World} {L0 : Nat → Lab} {a : Act} {w : World} {L : Nat → Lab} {s c blk : Nat} (hR : RelL S w0 L0 N σ a w L) (h5 : FM.get σ c = .av (.pt true [.sl false 1 (r.map .int)])) (hl : r.length = 2) (hs : s ≠ c) (hb : L blk = .my [s]) (sz : Nat) :
    PredAt Try.prog 13 ([c].map fun s => a.tmps.getD s undef).toArray (Value.int .i64) (inB r) w ∧ PredOver Try.prog 13 ([c].map fun s => a.tmps.getD s undef).toArray (Value.int .i64) (inB r) blk 0 sz w := by
  have hh := hR.hold c (own_lt hR h5 (by simp))
  rw [h5] at hh
  simp only [Hold] at hh
  obtain ⟨B, hLB, hpv, hlt, hc⟩ := pt_at hh
  obtain ⟨u, hu, hru⟩ := hc 0 _ rfl
  obtain ⟨b, off, cap, hub, hLb, hbl, hcells⟩ := shRow hru (fun e => by rw [e] at hl; simp at hl)
  subst hub
  have e1 : B ≠ blk := fun e => by subst e; rw [hLB] at hb; cases hb; exact hs rfl
  have e2 : b ≠ blk := fun e => by subst e; rw [hLb] at hb; cases hb
  have c0 := hcells 0 (by omega)
  have c1 := hcells 1 (by omega)
  have d0 : r[0]'(by omega) = r.getD 0 0 := by rw [List.getD_eq_getElem?_getD, List.getElem?_eq_getElem (by omega)]; rfl
  have d1 : r[1]'(by omega) = r.getD 1 0 := by rw [List.getD_eq_getElem?_getD, List.getElem?_eq_getElem (by omega)]; rfl
  rw [d0] at c0
  rw [d1] at c1
  rw [hl] at hu
  simp only [List.map_cons, List.map_nil, hpv]
  exact ⟨fun W y hbel => gives3 y _ _ B b off cap W ((hbel.cell (p := ⟨B, 0, none⟩) hlt).trans hu) ((hbel.cell (p := ⟨b, off + 0, none⟩) hbl).trans c0) ((hbel.cell (p := ⟨b, off + 1, none⟩) hbl).trans c1),
    fun k os dk y hsz => gives3 y _ _ B b off cap _ (cellSort hlt e1 hu) (cellSort hbl e2 c0) (cellSort hbl e2 c1)⟩
end Go.Proofs.Ytohgcgedbhlnfaa
