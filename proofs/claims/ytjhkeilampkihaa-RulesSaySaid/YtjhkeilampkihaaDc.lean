/- The closures of the reference's rounds, in whatever world holds what they captured. -/
import Derived.Test.YtjhkeilampkihaaDl
import Derived.Test.YtjhkeilampkihaaTa
import Derived.Test.YtjhkeilampkihaaLb
import Derived.Test.YtjhkeilampkihaaLc
import Derived.Lib.SliceRun
namespace Go.Proofs.Ytjhkeilampkihaa
open Go Go.Proofs Go.Shelf Go.RowKit Go.Lib Go.Sort
set_option linter.all false
theorem gives2 (z x : Int) (B : Nat) (W : World) (hc : W.cell? ⟨B, 0, none⟩ = some (.int .i64 z)) :
    FnGives Try.prog 138 #[.pointer (some ⟨B, 0, none⟩)] #[.int .i64 x] (.bool (x == z)) W := by
  show Calls Try.prog 138 #[.int .i64 x, .pointer (some ⟨B, 0, none⟩)] W _
  go_enter Try.func138, Try.ntmps138
  go_wp2
  all_goals (go_ret; exact ⟨by simp_all, 0, rfl⟩)
theorem gives1 (zs : List Int) (y : Int) (B b cap : Nat) (W : World) (hc : W.cell? ⟨B, 0, none⟩ = some (.slice (some ⟨b, 0, none⟩) zs.length cap)) (hz : ∀ j, j < zs.length → W.cell? ⟨b, 0 + j, none⟩ = some (.int .i64 zs[j]!)) (hbig : zs.length ≤ 9223372036854775807) :
    FnGives Try.prog 137 #[.pointer (some ⟨B, 0, none⟩)] #[.int .i64 y] (.bool (!(zs.any fun z => y == z))) W := by
  show Calls Try.prog 137 #[.int .i64 y, .pointer (some ⟨B, 0, none⟩)] W _
  have hcon := fun q => AnyE.slices_Contains lcon (Value.int .i64) (fun x y => x == y) (EqlAt.int _ _ _) b 0 zs.length cap zs y (W.drewN q) (Nat.le_refl _) hbig hz
  rw [List.take_length] at hcon
  change ∀ q, Calls Try.prog 121 _ _ _ at hcon
  generalize (zs.any fun z => y == z) = r at *
  go_enter Try.func137, Try.ntmps137
  go_wp2_with (go_at_call 121; refine (hcon 0).mono ?_; rintro e w' ⟨rfl, rfl⟩)
  all_goals (go_ret; exact ⟨by simp_all, 0, rfl⟩)
end Go.Proofs.Ytjhkeilampkihaa
