/- The reference's ranking: its closure, in whatever world holds what it captured. -/
import Derived.Test.YtohgcgedbhlnfaaAu
import Derived.Test.YtohgcgedbhlnfaaTa
import Derived.Shelf.SlSortCmp.Whole1
import Derived.Lib.SliceRun
import Derived.Deep.QuietTactic
import Derived.BigQuiet
namespace Go.Proofs.Ytohgcgedbhlnfaa
open Go Go.Proofs Go.Shelf Go.RowKit Go.Lib Go.Sort
set_option linter.all false
theorem drewN2 (W : World) (a b : Nat) : (W.drewN a).drewN b = W.drewN (a + b) := by simp only [World.drewN, Nat.add_assoc]
/-! ### what the sort leaves -/
def rkF (bids : List Int) (x y : Nat) : Int := if at0 bids x ≠ at0 bids y then at0 bids y - at0 bids x else (x : Int) - y
def rkLe (bids : List Int) (x y : Nat) : Bool := !(decide (rkF bids y x < 0))
def rk (bids : List Int) : List Int := ((List.range bids.length).mergeSort (rkLe bids)).map fun (k : Nat) => (k : Int)
theorem rkLe_iff {bids : List Int} {x y : Nat} : rkLe bids x y = true ↔ ahd bids x y := by
  unfold rkLe rkF ahd
  rw [Bool.not_eq_true', decide_eq_false_iff_not, Int.toNat_natCast, Int.toNat_natCast]
  split <;> omega
theorem rk_ok (bids : List Int) : Rk bids (rk bids) := by
  refine ⟨(List.mergeSort_perm _ _).map _, ?_⟩
  unfold rk
  rw [List.pairwise_map]
  have := List.pairwise_mergeSort (le := rkLe bids) (fun a b c h1 h2 => by rw [rkLe_iff] at *; unfold ahd at *; rw [Int.toNat_natCast, Int.toNat_natCast] at *; omega) (fun a b => by
    rw [Bool.or_eq_true, rkLe_iff, rkLe_iff]; unfold ahd; rw [Int.toNat_natCast, Int.toNat_natCast]; omega) (List.range bids.length)
  exact this.imp fun h => rkLe_iff.1 h
theorem rk_fin (bids : List Int) (m : Nat) (hm : bids.length = m + 1) : rk bids = ((List.finRange (m + 1)).mergeSort fun x y => rkLe bids x.val y.val).map fun x => (x.val : Int) := by
  unfold rk
  have h1 := List.map_mergeSort (r := fun (x y : Fin (m + 1)) => rkLe bids x.val y.val) (s := rkLe bids) (f := fun x : Fin (m + 1) => x.val) (l := List.finRange (m + 1)) (fun a _ b _ => rfl)
  have h2 : (List.finRange (m + 1)).map (fun x : Fin (m + 1) => x.val) = List.range (m + 1) := by
    apply List.ext_getElem
    · simp
    · intro i h1 h2; simp
  rw [h2] at h1
  rw [hm, ← h1, List.map_map]; rfl
theorem cell_sortE {α : Type} [Inhabited α] (enc : α → Value) {w : World} {blk n B j : Nat} {dk : Array α} {os : Array Obj} {u : Value} (hB : B < w.heap.size) (hne : B ≠ blk) (h : w.cell? ⟨B, j, none⟩ = some u) : (Go.Proofs.sortWorld enc w blk 0 n dk os).cell? ⟨B, j, none⟩ = some u := by
  unfold Go.Proofs.sortWorld
  rw [Go.Sort.cell?_grow _ _ _ (by show B < (Go.Sort.putRow _ _ _ _ _).heap.size; rw [Go.Sort.size_putRow]; exact hB), Go.Sort.cell?_putRow_other _ _ blk 0 _ _ (Or.inl hne)]
  exact h
theorem rank_swo (bids : List Int) (m : Nat) : SWO (ltOf fun x y : Fin (m + 1) => rkF bids x.val y.val) := by
  refine ⟨fun x => ?_, fun x y z h1 h2 => ?_, fun x y z h1 h2 => ?_⟩ <;> unfold ltOf rkF at * <;> simp only [decide_eq_true_eq, decide_eq_false_iff_not] at * <;> (repeat' split at *) <;> omega
end Go.Proofs.Ytohgcgedbhlnfaa
