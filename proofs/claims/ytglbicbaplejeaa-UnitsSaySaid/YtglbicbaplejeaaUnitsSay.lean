/- 'plumelaw.UnitsSay' returns true. -/
import Derived.Test.YtglbicbaplejeaaUnA
import Derived.Test.YtglbicbaplejeaaUnB
import Derived.Test.YtglbicbaplejeaaUnC
import Derived.Test.YtglbicbaplejeaaUnD
namespace Go.Proofs.Ytglbicbaplejeaa
open Go FM
set_option maxRecDepth 10000
set_option maxHeartbeats 6400000
set_option linter.all false
theorem unitsSay_spec (l : List Int) (n : Int) (B S : List Int) (hl : l.length ≤ 9223372036854775807) (hlB : B.length ≤ 9223372036854775807) (hlS : S.length ≤ 9223372036854775807) : FnSpec Sy.P 6 [.sl false 1 ((l).map .int), .int n, .sl false 1 ((B).map .int), .sl false 1 ((S).map .int)] [.sl false 1 ((l).map .int), .int n, .sl false 1 ((B).map .int), .sl false 1 ((S).map .int)] (.bool true) := by
  by_cases k0 : bidE B 0 = 0
  · by_cases k1 : bidE S 0 = 0
    · by_cases k2 : mtN (srt B).reverse (srt S) = 0
      · by_cases he : bidE l 0 = 0
        · by_cases hn : n < 0 ∨ 10 < n
          · exact unitsN_C l n B S hl hlB hlS k0 k1 k2 he hn
          · by_cases hq : n.toNat < l.length
            · exact unitsL_C l n B S hl hlB hlS k0 k1 k2 he hn hq
            · exact unitsG_C l n B S hl hlB hlS k0 k1 k2 he hn hq
        · exact unitsE_C l n B S hl hlB hlS k0 k1 k2 he
      · by_cases he : bidE l 0 = 0
        · by_cases hn : n < 0 ∨ 10 < n
          · exact unitsN_D l n B S hl hlB hlS k0 k1 k2 he hn
          · by_cases hq : n.toNat < l.length
            · exact unitsL_D l n B S hl hlB hlS k0 k1 k2 he hn hq
            · exact unitsG_D l n B S hl hlB hlS k0 k1 k2 he hn hq
        · exact unitsE_D l n B S hl hlB hlS k0 k1 k2 he
    · by_cases he : bidE l 0 = 0
      · by_cases hn : n < 0 ∨ 10 < n
        · exact unitsN_B l n B S hl hlB hlS k0 k1 he hn
        · by_cases hq : n.toNat < l.length
          · exact unitsL_B l n B S hl hlB hlS k0 k1 he hn hq
          · exact unitsG_B l n B S hl hlB hlS k0 k1 he hn hq
      · exact unitsE_B l n B S hl hlB hlS k0 k1 he
  · by_cases he : bidE l 0 = 0
    · by_cases hn : n < 0 ∨ 10 < n
      · exact unitsN_A l n B S hl hlB hlS k0 he hn
      · by_cases hq : n.toNat < l.length
        · exact unitsL_A l n B S hl hlB hlS k0 he hn hq
        · exact unitsG_A l n B S hl hlB hlS k0 he hn hq
    · exact unitsE_A l n B S hl hlB hlS k0 he
end Go.Proofs.Ytglbicbaplejeaa
