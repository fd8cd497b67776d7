/- 'plumelaw.TopPick' returns true: the given tied card TopPickCardSaid. -/
import Derived.Test.YtkkcnppgcnmikaaGreatDoorRows
import Derived.Test.YtkkcnppgcnmikaaGreatDoorCards
import Derived.Test.YtkkcnppgcnmikaaGreatDoorTie
import Derived.Test.YtkkcnppgcnmikaaGreatDoorTopPicknm
import Derived.Test.YtkkcnppgcnmikaaGreatDoorGlbnm
import Derived.OpenShut
import Derived.ChangeOld
import Derived.JoinedOf
import Derived.Handed
import Derived.SizedLaws
import Derived.ProofKit
import Derived.Lay
import Derived.LaidOnce
import Derived.SevenTiedAt
namespace Go.Proofs.YtkkcnppgcnmikaaGreatDoor
open Go FM Go.ChangeShapes Go.WideShapes Go.ChangeAt Go.RowKit
set_option linter.all false
theorem own : ownKnob Tryz.prog.godebug = none := by kernel_rfl
theorem laidOut : laidOutB Tryz.prog = true := by kernel_rfl
set_option maxRecDepth 100000 in
theorem lifted (os : Os) (started : os.Started) (H : Type) (enc : TypeId × Value → H) :
    ReturnsInHanded {} Tryz.checked os 5 .any (fun w args => (Rows.topPickSpec.pre enc Tryz.prog Tryz.f5 [] false w args ∧ laidMetH Tryz.prog Rows.topPickRow.laid w) ∧ sizedMet enc Tryz.prog Tryz.f5 (OpenSpec.ofChange Rows.topPickSpec) false w args) (Rows.topPickSpec.post enc Tryz.prog Tryz.f5 false true false false) := by
  refine handed_laid (C := Tryz.checked) (X := fun w => laidMetH Tryz.prog Rows.topPickRow.laid w) (fun _ _ hh h => h.of_heap hh) own started (by kernel_rfl) Tryz.func5
    (ChangeSpec.witness_shaped (enc := enc) (C := Tryz.checked) (os := os) (X := fun w _ => laidMetH Tryz.prog Rows.topPickRow.laid w) false (World.laidAll Tryz.prog os Rows.topPickRow.laid) #[.slice none 0 0, .int .i64 0] 8 (World.laidAll_os _ _ _)
      (World.shaped_of_ZipB (by kernel_rfl) (by kernel_rfl)) (by kernel_rfl) (by kernel_rfl) (by kernel_rfl)
      (by rw [MakeChecks.laidMetH_plain _ _ _ (by kernel_rfl)]; exact laidMet_laidAll _ (by kernel_rfl) (by kernel_rfl))) ?_
  intro W base args ds gs before hval hW hsz hlaid hshape
  have hW' := hW
  obtain ⟨p, q, hA, hV, rfl, hfz, hnd⟩ := hW
  obtain ⟨rfl, rfl⟩ := trodVars_none hV
  have hA1 : DataW.TrodAll enc Tryz.prog W 0 (fun _ => true) true [56, 3] args.toList ds p := by rw [Tryz.params5] at hA; exact hA
  have hsz1 : (DataW.weightsEach Tryz.prog [56, 3] ds).all (· ≤ reachBytes) = true := by rw [Tryz.params5] at hsz; rw [List.append_nil] at hsz; exact hsz
  have hval1 : ∀ (j : Nat) t v, ([56, 3] : List TypeId)[j]? = some t → args[j]? = some v → Value.okWide Tryz.prog W .any base t v := fun j t v hj hv => hval j t v (by rw [Tryz.params5]; simpa using hj) hv
  refine (law_callsL (ds := [.sl .ar2, .int]) (ts := [56, 3]) laidOut ⟨⟨_, Tryz.underlying56, by kernel_rfl, by decide, ⟨_, Tryz.underlying107, Tryz.underlying3, by kernel_rfl, by kernel_rfl⟩⟩, by kernel_rfl, of_decide_eq_true (by kernel_rfl), Tryz.underlying3, by kernel_rfl, of_decide_eq_true (by kernel_rfl), trivial⟩ (fun z g hL => topPick_spec z.1 z.2.1 g.1.1) hval1 hA1 hsz1 (glob_of hshape hlaid (by kernel_rfl) (by kernel_rfl) (by kernel_rfl))).mono fun e W' ⟨he, hk, bel⟩ => ?_
  subst he
  obtain ⟨v0, vs0, d0, ds0, p0, q0, hargs, rfl, rfl, h0, r0⟩ := trodAll_cons hA1
  obtain ⟨v1, vs1, d1, ds1, p1, q1, rfl, rfl, rfl, h1, r1⟩ := trodAll_cons r0
  obtain ⟨rfl, rfl, rfl⟩ := trodAll_nil r1
  exact ⟨_, rfl, _, _, _, [], _, [], hW', trodAll_mk1 (shut_bool Tryz.underlying4 _), hk, rfl, bel.frame _, fun h => by cases h⟩
theorem rowHolds : Rows.topPickRow.holds Tryz.pinned (OpenSpec.ofChange Rows.topPickSpec) :=
  OpenClaim.holds_of_wide 5 Tryz.f5 rfl rfl rfl rfl rfl rfl rfl ⟨rfl, rfl, rfl, rfl, rfl⟩ rfl rfl rfl rfl rfl (by kernel_rfl) Tryz.func5 (by kernel_rfl)
    (of_decide_eq_true (by kernel_rfl)) (by unfold Func.isWrapper; first | (rw [if_pos (by decide +kernel)]; kernel_rfl) | (rw [if_neg (by decide +kernel)]; exact ⟨rfl, rfl⟩))
    (fun os started H enc _ => lifted os started H enc)
/-- The given statement. -/
theorem proved : Rows.TopPickCardSaid :=
  Claim7.holds_tied_plain_at .later [] Rows.topPickCard.laidKinds true Rows.topPickCard.stood.harness Rows.topPickCard.stood.looks rowHolds (fun _ h => by cases h) (by kernel_rfl) (fun _ h => by cases h) topPick_row_tie rfl ⟨rfl, rfl⟩ (by kernel_rfl) rfl
    (fun f fn hf hfn => by
      obtain rfl : f = 5 := Option.some.inj ((show Tryz.prog.funcNamed "feathermark/plumetop.TopPick" = some 5 by kernel_rfl).symm.trans hf) |>.symm
      obtain rfl : fn = Tryz.f5 := (Option.some.inj (Tryz.func5.symm.trans hfn)).symm
      exact ⟨by kernel_rfl, fun j t ht => by
        rw [Tryz.params5] at ht
        have hm : t ∈ ([56, 3] : List TypeId) := by simpa using Array.mem_of_getElem? ht
        have hall : (([56, 3] : List TypeId).all fun u => !Tryz.prog.wantsStandIn u) = true := by kernel_rfl
        exact (show Tryz.prog.wantsStandIn t = false by simpa using List.all_eq_true.1 hall t hm)⟩)
    (by kernel_rfl)
#print axioms proved
end Go.Proofs.YtkkcnppgcnmikaaGreatDoor
