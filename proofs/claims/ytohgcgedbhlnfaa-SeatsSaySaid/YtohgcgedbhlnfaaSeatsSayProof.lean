/- 'plumelaw.SeatsSay' returns true: the given statement SeatsSaySaid. -/
import Derived.Test.YtohgcgedbhlnfaaRows
import Derived.Test.YtohgcgedbhlnfaaSeatsSay
import Derived.Test.YtohgcgedbhlnfaaFl
import Derived.OpenShut
import Derived.ChangeOld
import Derived.JoinedOf
import Derived.Handed
import Derived.SizedLaws
namespace Go.Proofs.Ytohgcgedbhlnfaa
open Go FM Go.ChangeShapes Go.WideShapes Go.ChangeAt Go.RowKit
set_option linter.all false
theorem own : ownKnob Try.prog.godebug = none := by kernel_rfl
theorem laidOut : laidOutB Try.prog = true := by kernel_rfl
set_option maxRecDepth 100000 in
theorem lifted (os : Os) (started : os.Started) (H : Type) (enc : TypeId × Value → H) :
    ReturnsInHanded {} Try.checked os 5 .any (Rows.seatsSaySpec.pre6 enc Try.prog Try.f5 Rows.seatsSayRow.domain false) (Rows.seatsSaySpec.post enc Try.prog Try.f5 false true false false) := by
  refine returnsInHanded_of_change (C := Try.checked) own started (by kernel_rfl) Try.func5
    (ChangeSpec.witness6 (enc := enc) (C := Try.checked) false ⟨#[], #[.int .i64 0, .slice none 0 0, .int .i64 0], []⟩ 8 (by kernel_rfl) (by kernel_rfl) (by kernel_rfl) (by kernel_rfl)) ?_
  intro W base args ds gs before hval hW hcnd _
  have hW' := hW
  obtain ⟨p, q, hA, hV, rfl, hfz, hnd⟩ := hW
  obtain ⟨rfl, rfl⟩ := trodVars_none hV
  have hA1 : DataW.TrodAll enc Try.prog W 0 (fun _ => true) true [3, 26, 3] args.toList ds p := by rw [Try.params5] at hA; exact hA
  have hval1 : ∀ (j : Nat) t v, ([3, 26, 3] : List TypeId)[j]? = some t → args[j]? = some v → Value.okWide Try.prog W .any base t v := fun j t v hj hv => hval j t v (by rw [Try.params5]; simpa using hj) hv
  refine (law_calls (ds := [.int, .sl .int, .int]) (ts := [3, 26, 3]) laidOut ⟨Try.underlying3, by kernel_rfl, of_decide_eq_true (by kernel_rfl), ⟨_, Try.underlying26, by kernel_rfl, by decide, Try.underlying3⟩, by kernel_rfl, of_decide_eq_true (by kernel_rfl), Try.underlying3, by kernel_rfl, of_decide_eq_true (by kernel_rfl), trivial⟩ (fun z g => seatsSay_spec z.1 z.2.1 z.2.2.1 g.2.1.1) hval1 hA1 ⟨trivial, fun _ h => h.elim⟩).mono fun e W' ⟨he, hk, bel⟩ => ?_
  subst he
  obtain ⟨v0, vs0, d0, ds0, p0, q0, hargs, rfl, rfl, h0, r0⟩ := trodAll_cons hA1
  obtain ⟨v1, vs1, d1, ds1, p1, q1, rfl, rfl, rfl, h1, r1⟩ := trodAll_cons r0
  obtain ⟨v2, vs2, d2, ds2, p2, q2, rfl, rfl, rfl, h2, r2⟩ := trodAll_cons r1
  obtain ⟨rfl, rfl, rfl⟩ := trodAll_nil r2
  exact ⟨_, rfl, _, _, _, [], _, [], hW', trodAll_mk1 (shut_bool Try.underlying4 _), hk, rfl, bel.frame _, fun h => by cases h⟩
/-- The given statement. -/
theorem proved : Rows.SeatsSaySaid :=
  OpenClaim.holds_of_wide 5 Try.f5 rfl rfl rfl rfl rfl rfl rfl ⟨rfl, rfl, rfl, rfl, rfl⟩ rfl rfl rfl rfl rfl (by kernel_rfl) Try.func5 (by kernel_rfl)
    (of_decide_eq_true (by kernel_rfl)) (by unfold Func.isWrapper; first | (rw [if_pos (by decide +kernel)]; kernel_rfl) | (rw [if_neg (by decide +kernel)]; exact ⟨rfl, rfl⟩))
    (fun os started H enc _ => lifted os started H enc)
#print axioms proved
end Go.Proofs.Ytohgcgedbhlnfaa
