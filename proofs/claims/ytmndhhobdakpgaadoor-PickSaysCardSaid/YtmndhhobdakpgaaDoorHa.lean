/- Accounts: names. -/
import Derived.Test.YtmndhhobdakpgaaDoorFz
import Derived.Test.YtmndhhobdakpgaaDoorFs
import Derived.Test.YtmndhhobdakpgaaDoorLtr
import Derived.Test.YtmndhhobdakpgaaDoorSl
import Derived.Lib.SlTrimSet
namespace FM
open Go Go.RowKit
/-- A call that reads plain arguments, lays new memory only, and answers what is plain. -/
theorem FnSpec.ofPlain {P : Program} {f : Nat} {bs : List AV} {r : AV} (hf : FnOk P f) (hr : r.flatPlain = true)
    (h : ∀ (w : World) (L : Nat → Lab) (vs : List Value), vs.length = bs.length → (∀ i x v, bs[i]? = some x → vs[i]? = some v → Rep L w (some [i]) x v) → Calls P f vs.toArray w fun e w' => e = .returned r.toV ∧ Below w.heap.size w w') : FnSpec P f bs bs r where
  ok := hf
  calls := fun w L vs hl hpre hrep => (h w L vs hl hrep).mono fun e w' ⟨he, hb⟩ => by
    have hL : ∀ b p, (if b < w.heap.size then L b else .sh) = .my p → b < w.heap.size ∧ L b = .my p := fun b p h => by
      by_cases hb : b < w.heap.size
      · rw [if_pos hb] at h; exact ⟨hb, h⟩
      · rw [if_neg hb] at h; cases h
    refine ⟨r.toV, fun b => if b < w.heap.size then L b else .sh, he, ⟨hb.os, hb.tape, hb.output, hb.size, fun b hlt _ => hb.block b hlt⟩,
      ⟨fun b p h => Nat.lt_of_lt_of_le (hL b p h).1 hb.size, fun b b' p h h' => hpre.inj b b' p (hL b p h).2 (hL b' p h').2, fun b p h e => ?_, fun b p _ h => ⟨p, (hL b p h).2⟩, fun b hlt => ?_, fun b hge h => ?_⟩, fun b p h => ?_, fun i x u hx hu => ?_, toV_rep hr⟩
    · obtain ⟨i, q, e', _⟩ := hpre.head b p (hL b p h).2
      rw [e] at e'; cases e'
    · show (if b < w.heap.size then L b else .sh) = .fo ↔ _
      rw [if_pos hlt]
    · have h : (if b < w.heap.size then L b else .sh) = .fo := h
      rw [if_neg (by omega)] at h; cases h
    · obtain ⟨i, q, e', h2⟩ := hpre.head b p (hL b p h).2
      exact ⟨i, q, e', by omega⟩
    · refine (hrep i x u hx hu).frame hb.size hb.os hb.tape hb.output (fun b h1 h2 => ⟨?_, hb.block b h2⟩) _ fun p hp => ⟨p, hp, fun b q h1 => ⟨?_, ?_⟩⟩
      · show (if b < w.heap.size then L b else .sh) = .sh
        rw [if_pos h2]; exact h1
      · show (if b < w.heap.size then L b else .sh) = _
        rw [if_pos (hpre.lt b _ h1)]; exact h1
      · exact hb.block b (hpre.lt b _ h1)
end FM
namespace Go.Proofs.YtmndhhobdakpgaaDoor
open Go FM Go.Proofs
set_option maxRecDepth 10000
set_option maxHeartbeats 1600000
set_option linter.all false
abbrev Str := List UInt8
def azL : Str := [97, 98, 99, 100, 101, 102, 103, 104, 105, 106, 107, 108, 109, 110, 111, 112, 113, 114, 115, 116, 117, 118, 119, 120, 121, 122]
theorem trim_spec (s c : Str) (hs : s.length ≤ 9223372036854775807) (hc : c.length ≤ 1000) (ha : ∀ (j : Nat) b, c[j]? = some b → b.toNat < 128) : FnSpec Sy.P 52 [.str s, .str c] [.str s, .str c] (.str (Lib.trimS s c)) := by
  refine FnSpec.ofPlain ⟨_, Tryd.func52, rfl, rfl⟩ rfl fun w L vs hl hrep => ?_
  match vs, hl, hrep with
  | [u, v], _, hrep =>
    have h1 := hrep 0 _ _ rfl rfl
    have h2 := hrep 1 _ _ rfl rfl
    cases h1; cases h2
    have := Any.strings_Trim_ascii ltrim (fun w => Tryd.zeroValue80 w) (by kernel_rfl) ⟨s.toArray⟩ ⟨c.toArray⟩ w (by rw [mk_size]; exact hs) (by rw [mk_size]; omega) (by simpa using ha)
    exact this
end Go.Proofs.YtmndhhobdakpgaaDoor
