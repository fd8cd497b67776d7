/- The library's reversal, as a call that turns what the caller owns. -/
import Derived.Test.YtohgcgedbhlnfaaSt
import Derived.Test.YtohgcgedbhlnfaaLv
import Derived.Shelf.SlicesE.Reverse
namespace FM
open Go Go.RowKit
set_option linter.all false
/-- A function that turns the row that it is handed, from its contract. -/
theorem FnSpec.ofRow {P : Program} {f : Nat} (hf : FnOk P f) (l l' : List Int) (hlen : l'.length = l.length)
    (hsome : l ≠ [] → ∀ (blk off cap : Nat) (w : World), Go.Sort.Holds (Value.int .i64) w blk off l.toArray → blk < w.heap.size →
      Calls P f #[.slice (some ⟨blk, off, none⟩) l.length cap] w fun e w' => e = .returned (.tuple #[]) ∧ ∃ n os, w' = Go.Sort.grow (Go.Sort.putRow (Value.int .i64) (Go.Sort.ahead w n) blk off l'.toArray) os)
    (hnone : ∀ (p : Option Addr) (cap : Nat) (w : World), Calls P f #[.slice p 0 cap] w fun e w' => e = .returned (.tuple #[]) ∧ w' = w) :
    FnSpec P f [.sl true 1 (l.map .int)] [.sl true 1 (l'.map .int)] (.tup []) := by
  refine ⟨hf, fun w L vs hvs hpre hargs => ?_⟩
  match vs, hvs with
  | [v], _ =>
  have hrep := hargs 0 _ v rfl rfl
  by_cases hne : l = []
  · have hl' : l' = [] := List.eq_nil_of_length_eq_zero (by rw [hlen, hne]; rfl)
    subst hne; subst hl'
    have : ∃ a cap, v = .slice a 0 cap := sl_inv hrep
    obtain ⟨a, cap, rfl⟩ := this
    refine (hnone a cap w).mono fun e w' ⟨he, hw⟩ => ?_
    subst hw
    refine ⟨_, L, he, ⟨rfl, rfl, rfl, Nat.le_refl _, fun _ _ _ => rfl⟩, ⟨hpre.lt, hpre.inj, fun b' p hp e => ?_, fun b' p _ hp => ⟨p, hp⟩, fun b' _ => Iff.rfl, hpre.new⟩, fun b' p hp => ?_, fun i x u hx hu => ?_, .tup rfl fun i x v h => by simp at h⟩
    · subst e; obtain ⟨i, q, h, _⟩ := hpre.head b' [] hp; cases h
    · obtain ⟨i, q, h, h2⟩ := hpre.head b' p hp; exact ⟨i, q, h, Nat.le_of_lt h2⟩
    · exact hargs i x u hx hu
  · obtain ⟨blk, cap, hv, hH, hb, _, hB⟩ := back_row (l' := l') (rest := []) (vrest := []) hpre hrep hlen hne rfl rfl (fun i x u h => by simp at h)
    rw [hv]
    refine (hsome hne blk 0 cap w hH hb).mono fun e w' ⟨he, n, os, hw⟩ => ?_
    subst hw
    obtain ⟨L', hB⟩ := hB n os
    rw [hv] at hB
    exact ⟨_, L', he, hB⟩
end FM
namespace Go.Proofs.Ytohgcgedbhlnfaa
open Go FM
set_option linter.all false
theorem reverse_spec (l : List Int) (hl : l.length ≤ 9223372036854775807) : FnSpec Sy.P 15 [.sl true 1 ((l).map .int)] [.sl true 1 ((l.reverse).map .int)] (.tup []) :=
  FnSpec.ofRow ⟨_, Try.func15, rfl, rfl⟩ l l.reverse List.length_reverse
    (fun _ blk off cap w h1 _ => (AnyE.slices_Reverse lrev (Value.int .i64) (fun _ => rfl) blk off cap l w h1 hl).mono fun e w' ⟨he, n, hw⟩ => ⟨he, n, #[], by rw [hw, Go.Sort.grow_empty]⟩)
    (fun p cap w => AnyE.slices_Reverse_empty lrev p cap w)
end Go.Proofs.Ytohgcgedbhlnfaa
