/- 'plumelaw.PickSays' returns true: the given tied card PickSaysCardSaid. -/
import Derived.Test.YtmndhhobdakpgaaDoorRows
import Derived.Test.YtmndhhobdakpgaaDoorCards
import Derived.Test.YtmndhhobdakpgaaDoorTie
import Derived.Test.YtmndhhobdakpgaaDoorPickSays
import Derived.Test.YtmndhhobdakpgaaDoorLn
import Derived.OpenShut
import Derived.ChangeOld
import Derived.JoinedOf
import Derived.Handed
import Derived.SizedLaws
import Derived.ProofKit
import Derived.Lay
import Derived.LaidOnce
import Derived.SevenTiedAt
namespace Go.Proofs.YtmndhhobdakpgaaDoor
open Go FM Go.ChangeShapes Go.WideShapes Go.ChangeAt Go.RowKit
set_option linter.all false
theorem own : ownKnob Tryd.prog.godebug = none := by kernel_rfl
theorem laidOut : laidOutB Tryd.prog = true := by kernel_rfl
set_option maxRecDepth 100000 in
theorem lifted (os : Os) (started : os.Started) (H : Type) (enc : TypeId × Value → H) :
    ReturnsInHanded {} Tryd.checked os 4 .any (fun w args => (Rows.pickSaysSpec.pre enc Tryd.prog Tryd.f4 [] false w args ∧ laidMetH Tryd.prog Rows.pickSaysRow.laid w) ∧ sizedMet enc Tryd.prog Tryd.f4 (OpenSpec.ofChange Rows.pickSaysSpec) false w args) (Rows.pickSaysSpec.post enc Tryd.prog Tryd.f4 false true false false) := by
  refine returnsInHanded_of_change_and (C := Tryd.checked) (X := fun w _ => laidMetH Tryd.prog Rows.pickSaysRow.laid w) (fun _ _ _ hh h => h.of_heap hh) own started (by kernel_rfl) Tryd.func4
    (ChangeSpec.witness_shaped (enc := enc) (C := Tryd.checked) (os := os) (X := fun w _ => laidMetH Tryd.prog Rows.pickSaysRow.laid w) false (World.laidAll Tryd.prog os Rows.pickSaysRow.laid) #[.slice none 0 0, .slice none 0 0, .string ⟨#[]⟩, .int .i64 0] 8 (World.laidAll_os _ _ _)
      (World.shaped_of_ZipB (by kernel_rfl) (by kernel_rfl)) (by kernel_rfl) (by kernel_rfl) (by kernel_rfl)
      (by rw [MakeChecks.laidMetH_plain _ _ _ (by kernel_rfl)]; exact laidMet_laidAll _ (by kernel_rfl) (by kernel_rfl))) ?_
  intro W base args ds gs before hval hW _ hsz _ _
  have hW' := hW
  obtain ⟨p, q, hA, hV, rfl, hfz, hnd⟩ := hW
  obtain ⟨rfl, rfl⟩ := trodVars_none hV
  have hA1 : DataW.TrodAll enc Tryd.prog W 0 (fun _ => true) true [22, 25, 9, 3] args.toList ds p := by rw [Tryd.params4] at hA; exact hA
  have hsz1 : (DataW.weightsEach Tryd.prog [22, 25, 9, 3] ds).all (· ≤ reachBytes) = true := by rw [Tryd.params4] at hsz; rw [List.append_nil] at hsz; exact hsz
  have hval1 : ∀ (j : Nat) t v, ([22, 25, 9, 3] : List TypeId)[j]? = some t → args[j]? = some v → Value.okWide Tryd.prog W .any base t v := fun j t v hj hv => hval j t v (by rw [Tryd.params4]; simpa using hj) hv
  refine (law_callsL (ds := [.sl (.pr .str (.pr .str (.pr .int (.pr .int (.pr .int (.pr .int .un)))))), .sl (.pr .str (.pr .int (.pr .int .un))), .str, .int]) (ts := [22, 25, 9, 3]) laidOut ⟨⟨_, Tryd.underlying22, by kernel_rfl, by decide, ⟨_, Tryd.underlying24, by kernel_rfl, ⟨rfl, by kernel_rfl, Tryd.underlying9, ⟨rfl, by kernel_rfl, Tryd.underlying9, ⟨rfl, by kernel_rfl, Tryd.underlying3, ⟨rfl, by kernel_rfl, Tryd.underlying3, ⟨rfl, by kernel_rfl, Tryd.underlying3, ⟨rfl, by kernel_rfl, Tryd.underlying3, rfl⟩⟩⟩⟩⟩⟩⟩⟩, by kernel_rfl, of_decide_eq_true (by kernel_rfl), ⟨_, Tryd.underlying25, by kernel_rfl, by decide, ⟨_, Tryd.underlying46, by kernel_rfl, ⟨rfl, by kernel_rfl, Tryd.underlying9, ⟨rfl, by kernel_rfl, Tryd.underlying3, ⟨rfl, by kernel_rfl, Tryd.underlying3, rfl⟩⟩⟩⟩⟩, by kernel_rfl, of_decide_eq_true (by kernel_rfl), Tryd.underlying9, by kernel_rfl, of_decide_eq_true (by kernel_rfl), Tryd.underlying3, by kernel_rfl, of_decide_eq_true (by kernel_rfl), trivial⟩ (fun z g hL => pickSays_spec z.1 z.2.1 z.2.2.1 z.2.2.2.1 ⟨g.1.1, fun d hd => (g.1.2 d hd).1, fun d hd => (g.1.2 d hd).2.1⟩ ⟨g.2.1.1, fun a ha => (g.2.1.2 a ha).1⟩) hval1 hA1 hsz1).mono fun e W' ⟨he, hk, bel⟩ => ?_
  subst he
  obtain ⟨v0, vs0, d0, ds0, p0, q0, hargs, rfl, rfl, h0, r0⟩ := trodAll_cons hA1
  obtain ⟨v1, vs1, d1, ds1, p1, q1, rfl, rfl, rfl, h1, r1⟩ := trodAll_cons r0
  obtain ⟨v2, vs2, d2, ds2, p2, q2, rfl, rfl, rfl, h2, r2⟩ := trodAll_cons r1
  obtain ⟨v3, vs3, d3, ds3, p3, q3, rfl, rfl, rfl, h3, r3⟩ := trodAll_cons r2
  obtain ⟨rfl, rfl, rfl⟩ := trodAll_nil r3
  exact ⟨_, rfl, _, _, _, [], _, [], hW', trodAll_mk1 (shut_bool Tryd.underlying4 _), hk, rfl, bel.frame _, fun h => by cases h⟩
theorem rowHolds : Rows.pickSaysRow.holds Tryd.pinned (OpenSpec.ofChange Rows.pickSaysSpec) :=
  OpenClaim.holds_of_wide 4 Tryd.f4 rfl rfl rfl rfl rfl rfl rfl ⟨rfl, rfl, rfl, rfl, rfl⟩ rfl rfl rfl rfl rfl (by kernel_rfl) Tryd.func4 (by kernel_rfl)
    (of_decide_eq_true (by kernel_rfl)) (by unfold Func.isWrapper; first | (rw [if_pos (by decide +kernel)]; kernel_rfl) | (rw [if_neg (by decide +kernel)]; exact ⟨rfl, rfl⟩))
    (fun os started H enc _ => lifted os started H enc)
/-- The given statement. -/
theorem proved : Rows.PickSaysCardSaid :=
  Claim7.holds_tied_plain_at .later [] Rows.pickSaysCard.laidKinds true Rows.pickSaysCard.stood.harness Rows.pickSaysCard.stood.looks rowHolds (fun _ h => by cases h) (by kernel_rfl) (fun _ h => by cases h) pickSays_row_tie rfl ⟨rfl, rfl⟩ (by kernel_rfl) rfl
    (fun f fn hf hfn => by
      obtain rfl : f = 4 := Option.some.inj ((show Tryd.prog.funcNamed "feathermark/plumelaw.PickSays" = some 4 by kernel_rfl).symm.trans hf) |>.symm
      obtain rfl : fn = Tryd.f4 := (Option.some.inj (Tryd.func4.symm.trans hfn)).symm
      exact ⟨by kernel_rfl, fun j t ht => by
        rw [Tryd.params4] at ht
        have hm : t ∈ ([22, 25, 9, 3] : List TypeId) := by simpa using Array.mem_of_getElem? ht
        have hall : (([22, 25, 9, 3] : List TypeId).all fun u => !Tryd.prog.wantsStandIn u) = true := by kernel_rfl
        exact (show Tryd.prog.wantsStandIn t = false by simpa using List.all_eq_true.1 hall t hm)⟩)
    (by kernel_rfl)
#print axioms proved
end Go.Proofs.YtmndhhobdakpgaaDoor
