/- 'plumelaw.LogFrames' returns true, where what it reads is of bulk at most 1048576: the given statement LogFramesUptoSaid. (Its '..Said' is false by size: the records of a text of 2^47 letters do not fit into one slice.) -/
import Derived.Test.YtioodlkigdklhaaRows
import Derived.Test.YtioodlkigdklhaaLogFrames
import Derived.Test.YtioodlkigdklhaaFl
import Derived.OpenShut
import Derived.ShutString
import Derived.ChangeMaps5
import Derived.JoinedOf
import Derived.JoinedCond
import Derived.Handed
namespace Go.Proofs.Ytioodlkigdklhaa
open Go FM Go.ChangeShapes Go.WideShapes Go.ChangeAt Go.RowKit
set_option linter.all false
theorem own : ownKnob Try.prog.godebug = none := by kernel_rfl
theorem laidOut : laidOutB Try.prog = true := by kernel_rfl
theorem short {H : Type} {a b : List UInt8} (hk : Rows.uptoSmall H [.lit (.string a), .lit (.string b)] = true) : a.length + b.length ≤ 1048576 := by
  have h : Rows.uptoBulkAll [DataW.lit (H := H) (.string a), DataW.lit (.string b)] ≤ 1048576 := of_decide_eq_true hk
  simp only [Rows.uptoBulkAll, Rows.uptoBulk] at h
  omega
set_option maxRecDepth 100000 in
theorem lifted (os : Os) (started : os.Started) (H : Type) (enc : TypeId × Value → H) (F : Stop.Interp) :
    ReturnsInHanded {} Try.checked os 4 .any ((Rows.OpenSpec.upto Rows.logFramesSpec).pre6 enc Try.prog Try.f4 Rows.logFramesUptoRow.domain false) (((Rows.OpenSpec.upto Rows.logFramesSpec).at F).post enc Try.prog Try.f4 false true false false) := by
  refine returnsInHanded_of_cond (C := Try.checked) (s := Rows.OpenSpec.upto Rows.logFramesSpec) (k := Rows.uptoSmall) rfl own started (by kernel_rfl) Try.func4
    (OpenSpec.witness (enc := enc) (C := Try.checked) (s := Rows.OpenSpec.upto Rows.logFramesSpec) (k := Rows.uptoSmall) rfl false ⟨#[], #[.string .empty, .string .empty], []⟩ 8 (by kernel_rfl) (by kernel_rfl) (by kernel_rfl)
      (x := ([.lit (.string []), .lit (.string [])], [], [])) (by kernel_rfl) rfl (by kernel_rfl)) ?_
  intro W base args ds gs before hval hW hcnd hk _
  have hW' := hW
  obtain ⟨p, q, hA, hV, rfl, hfz, hnd⟩ := hW
  obtain ⟨rfl, rfl⟩ := trodVars_none hV
  have hA1 : DataW.TrodAll enc Try.prog W 0 (fun _ => true) true [9, 9] args.toList ds p := by rw [Try.params4] at hA; exact hA
  have hval1 : ∀ (j : Nat) t v, ([9, 9] : List TypeId)[j]? = some t → args[j]? = some v → Value.okWide Try.prog W .any base t v := fun j t v hj hv => hval j t v (by rw [Try.params4]; simpa using hj) hv
  obtain ⟨v0, vs0, d0, ds0, p0, q0, hargs, rfl, rfl, h0, r0⟩ := trodAll_cons hA1
  obtain ⟨v1, vs1, d1, ds1, p1, q1, rfl, rfl, rfl, h1, r1⟩ := trodAll_cons r0
  obtain ⟨rfl, rfl, rfl⟩ := trodAll_nil r1
  obtain rfl : args = #[v0, v1] := by cases args; simp_all
  obtain ⟨s0, rfl, rfl, rfl, m0⟩ := Go.ChangeMaps.open_string Try.underlying9 (hval1 0 9 v0 rfl rfl) h0
  obtain ⟨s1, rfl, rfl, rfl, m1⟩ := Go.ChangeMaps.open_string Try.underlying9 (hval1 1 9 v1 rfl rfl) h1
  simp only [List.append_nil] at hk
  have hb := short hk
  refine ((logFrames_spec s0.data.toList s1.data.toList (by omega) (by omega)).calls W (fun _ => .sh) [.string s0, .string s1] rfl (pre_none (fun _ _ h => by cases h) (fun _ _ h => by cases h)) (fun i x v hx hv => ?_)).mono fun e W' ⟨v, L', he, hB⟩ => ?_
  · match i with
    | 0 =>
      simp only [List.getElem?_cons_zero, Option.some.injEq] at hx hv; subst hx; subst hv
      have e : s0 = ⟨s0.data.toList.toArray⟩ := by cases s0; simp
      exact e ▸ Rep.str (s := s0.data.toList)
    | 1 =>
      simp only [List.getElem?_cons_succ, List.getElem?_cons_zero, Option.some.injEq] at hx hv; subst hx; subst hv
      have e : s1 = ⟨s1.data.toList.toArray⟩ := by cases s1; simp
      exact e ▸ Rep.str (s := s1.data.toList)
    | i + 2 => simp at hx
  · have hv : v = .bool true := by have := hB.res; cases this; rfl
    subst hv; subst he
    have bel : Below W.heap.size W W' := ⟨hB.keep.os, hB.keep.tape, hB.keep.output, hB.keep.size, fun b hb => hB.keep.block b hb (fun p h => by cases h)⟩
    have hkk := keep_args (P := Try.prog) laidOut bel [.str, .str] [9, 9] _ _ _ ⟨Try.underlying9, by kernel_rfl, of_decide_eq_true (by kernel_rfl), Try.underlying9, by kernel_rfl, of_decide_eq_true (by kernel_rfl), trivial⟩ hA1
    exact ⟨_, rfl, _, _, _, [], _, [], hW', trodAll_mk1 (shut_bool Try.underlying4 _), hkk, rfl, bel.frame _, fun h => by cases h⟩
/-- The given statement. -/
theorem proved : Rows.LogFramesUptoSaid :=
  OpenClaim.holds_of_cond 4 Try.f4 rfl rfl rfl rfl rfl rfl rfl ⟨rfl, rfl, rfl, rfl, rfl⟩ rfl rfl rfl rfl rfl (by kernel_rfl) Try.func4 (by kernel_rfl)
    (of_decide_eq_true (by kernel_rfl)) (by unfold Func.isWrapper; first | (rw [if_pos (by decide +kernel)]; kernel_rfl) | (rw [if_neg (by decide +kernel)]; exact ⟨rfl, rfl⟩))
    (fun os started H enc _ F => lifted os started H enc F)
#print axioms proved
end Go.Proofs.Ytioodlkigdklhaa
