/- 'plumelaw.TradeSays' returns true: the given statement TradeSaysSaid. -/
import Derived.Test.YtohgcgedbhlnfaaRows
import Derived.Test.YtohgcgedbhlnfaaTradeSays
import Derived.Test.YtohgcgedbhlnfaaLn
import Derived.OpenShut
import Derived.ChangeOld
import Derived.JoinedOf
import Derived.Handed
import Derived.SizedLaws
namespace Go.Proofs.Ytohgcgedbhlnfaa
open Go FM Go.ChangeShapes Go.WideShapes Go.ChangeAt Go.RowKit
set_option linter.all false
theorem own : ownKnob Try.prog.godebug = none := by kernel_rfl
theorem laidOut : laidOutB Try.prog = true := by kernel_rfl
set_option maxRecDepth 100000 in
theorem lifted (os : Os) (started : os.Started) (H : Type) (enc : TypeId × Value → H) :
    ReturnsInHanded {} Try.checked os 8 .any (Rows.tradeSaysSpec.pre6 enc Try.prog Try.f8 Rows.tradeSaysRow.domain false) (Rows.tradeSaysSpec.post enc Try.prog Try.f8 false true false false) := by
  refine returnsInHanded_of_change_sized (C := Try.checked) own started (by kernel_rfl) Try.func8
    (ChangeSpec.witness6 (enc := enc) (C := Try.checked) false ⟨#[], #[.slice none 0 0, .slice none 0 0], []⟩ 8 (by kernel_rfl) (by kernel_rfl) (by kernel_rfl) (by kernel_rfl)) ?_
  intro W base args ds gs before hval hW hcnd hsz _
  have hW' := hW
  obtain ⟨p, q, hA, hV, rfl, hfz, hnd⟩ := hW
  obtain ⟨rfl, rfl⟩ := trodVars_none hV
  have hA1 : DataW.TrodAll enc Try.prog W 0 (fun _ => true) true [22, 26] args.toList ds p := by rw [Try.params8] at hA; exact hA
  have hsz1 : (DataW.weightsEach Try.prog [22, 26] ds).all (· ≤ reachBytes) = true := by rw [Try.params8] at hsz; rw [List.append_nil] at hsz; exact hsz
  have hval1 : ∀ (j : Nat) t v, ([22, 26] : List TypeId)[j]? = some t → args[j]? = some v → Value.okWide Try.prog W .any base t v := fun j t v hj hv => hval j t v (by rw [Try.params8]; simpa using hj) hv
  refine (law_callsL (ds := [.sl (.sl .int), .sl .int]) (ts := [22, 26]) laidOut ⟨⟨_, Try.underlying22, by kernel_rfl, by decide, ⟨_, Try.underlying26, by kernel_rfl, by decide, Try.underlying3⟩⟩, by kernel_rfl, of_decide_eq_true (by kernel_rfl), ⟨_, Try.underlying26, by kernel_rfl, by decide, Try.underlying3⟩, by kernel_rfl, of_decide_eq_true (by kernel_rfl), trivial⟩ (fun z g hL => tradeSays_spec z.1 z.2.1 g.1.1 (lenII hL.1) (lenI hL.2.1)) hval1 hA1 hsz1).mono fun e W' ⟨he, hk, bel⟩ => ?_
  subst he
  obtain ⟨v0, vs0, d0, ds0, p0, q0, hargs, rfl, rfl, h0, r0⟩ := trodAll_cons hA1
  obtain ⟨v1, vs1, d1, ds1, p1, q1, rfl, rfl, rfl, h1, r1⟩ := trodAll_cons r0
  obtain ⟨rfl, rfl, rfl⟩ := trodAll_nil r1
  exact ⟨_, rfl, _, _, _, [], _, [], hW', trodAll_mk1 (shut_bool Try.underlying4 _), hk, rfl, bel.frame _, fun h => by cases h⟩
/-- The given statement. -/
theorem proved : Rows.TradeSaysSaid :=
  OpenClaim.holds_of_wide 8 Try.f8 rfl rfl rfl rfl rfl rfl rfl ⟨rfl, rfl, rfl, rfl, rfl⟩ rfl rfl rfl rfl rfl (by kernel_rfl) Try.func8 (by kernel_rfl)
    (of_decide_eq_true (by kernel_rfl)) (by unfold Func.isWrapper; first | (rw [if_pos (by decide +kernel)]; kernel_rfl) | (rw [if_neg (by decide +kernel)]; exact ⟨rfl, rfl⟩))
    (fun os started H enc _ => lifted os started H enc)
#print axioms proved
end Go.Proofs.Ytohgcgedbhlnfaa
