/- The reference's ranking, walked. -/
import Derived.Test.YtohgcgedbhlnfaaRk
import Derived.Test.YtohgcgedbhlnfaaAk
import Derived.Test.YtohgcgedbhlnfaaSt
import Derived.Test.YtohgcgedbhlnfaaDl
import Derived.Test.YtohgcgedbhlnfaaLf
import Derived.Test.YtohgcgedbhlnfaaIo
import Derived.Shelf.SlSortCmp.NoneTotal
namespace Go.Proofs.Ytohgcgedbhlnfaa
open Go FM Go.Proofs
set_option maxRecDepth 10000
set_option maxHeartbeats 1600000
set_option linter.all false
theorem putRow_val {α : Type} [Inhabited α] {enc : α → Value} {f : α → Int} (he : ∀ x, enc x = .int .i64 (f x)) (w : World) (blk : Nat) (d : List α) : Go.Sort.putRow enc w blk 0 d.toArray = Go.Sort.putRow (Value.int .i64) w blk 0 (d.map f).toArray := by
  unfold Go.Sort.putRow
  congr 1
  funext c
  unfold Go.Sort.putCells
  congr 1
  funext k x
  have hs : (d.map f).toArray.size = d.toArray.size := by simp
  rw [hs]
  by_cases h : 0 ≤ k ∧ k < 0 + d.toArray.size
  · rw [if_pos h, if_pos h]
    have hk : k < d.length := by have := h.2; simpa using this
    rw [he, getElem!_pos _ _ (by simpa using hk), getElem!_pos _ _ (by simpa using hk)]
    simp
  · rw [if_neg h, if_neg h]
theorem sh_row {L : Nat → Lab} {w : World} {π : Option (List Nat)} {l : List Int} {u : Value} (h : Rep L w π (.sl false 1 (l.map .int)) u) (hne : l ≠ []) :
    ∃ b off cap, u = .slice (some ⟨b, off, none⟩) l.length cap ∧ L b = .sh ∧ b < w.heap.size ∧ ∀ j, (hj : j < l.length) → w.cell? ⟨b, off + j, none⟩ = some (.int .i64 l[j]) := by
  generalize hxs : l.map AV.int = xs at h
  cases h with
  | slE h => exfalso; apply hne; cases l with
    | nil => rfl
    | cons a r => cases hxs
  | @slS _ c xs b off cap uu hcap hL hb hc hcell hr =>
    subst hxs
    rw [List.length_map]
    refine ⟨b, off, cap, rfl, hL, hb, fun j hj => ?_⟩
    have h1 := hcell j (by rw [List.length_map]; omega)
    have h2 := hr j (.int l[j]) (by rw [flat_single (fun x hx => by obtain ⟨y, _, rfl⟩ := List.mem_map.1 hx; rfl), List.getElem?_map, List.getElem?_eq_getElem hj]; rfl)
    rw [h1]
    generalize uu j = z at h2
    cases h2; rfl
theorem inM_one {s : Nat} {L : Nat → Lab} {blk : Nat} (h : inM [(s, 0)] L blk = .my [0]) : L blk = .my [s] := by
  obtain ⟨t, i, q, e1, e2, e3⟩ := inM_my h
  cases e3
  simp only [idxM] at e2
  cases hb' : Nat.beq s t with
  | false => rw [hb', cond_false] at e2; cases e2
  | true => have := Nat.eq_of_beq_eq_true hb'; subst this; exact e1
end Go.Proofs.Ytohgcgedbhlnfaa
