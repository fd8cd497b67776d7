/- 'plumelaw.RulesSay' returns true. -/
import Derived.Test.YtjhkeilampkihaaRy
import Derived.Test.YtjhkeilampkihaaDo
namespace Go.Proofs.Ytjhkeilampkihaa
open Go FM
set_option linter.all false
theorem rulesSay_spec (rule n : Int) (V : List (List Int)) (hV : V.length ≤ 9223372036854775807) (hr : ∀ r ∈ V, r.length ≤ 17592186044416) : FnSpec Sy.P 13 [.int rule, .int n, .sl false 1 ((V).map rwS)] [.int rule, .int n, .sl false 1 ((V).map rwS)] (.bool true) := by
  by_cases hrl : rule < 1 ∨ 5 < rule
  · exact rules_arg rule n V hrl hV hr
  · by_cases he : voteE n V = 0
    · obtain ⟨m, rfl, h⟩ := voteE_ok he
      exact rules_ok rule m V hrl h hr (roundsOf_spec m V h)
    · exact rules_err rule n V hrl he hV hr
end Go.Proofs.Ytjhkeilampkihaa
