/- Accounts: names. -/
import Derived.Test.YtkkcnppgcnmikaaGreatDoorFrm
import Derived.Test.YtkkcnppgcnmikaaGreatDoorFsm
import Derived.Test.YtkkcnppgcnmikaaGreatDoorLtrm
import Derived.Test.YtkkcnppgcnmikaaGreatDoorEqm
import Derived.Lib.SlTrimSet
namespace FM
open Go Go.RowKit
/-- A call that reads plain arguments, lays new memory only, and answers what is plain. -/
theorem FnSpec.ofPlain {P : Program} {f : Nat} {bs : List AV} {r : AV} (hf : FnOk P f) (hr : r.flatPlain = true)
    (h : ∀ (w : World) (L : Nat → Lab) (vs : List Value), vs.length = bs.length → (∀ i x v, bs[i]? = some x → vs[i]? = some v → Rep L w (some [i]) x v) → Glob L w → Calls P f vs.toArray w fun e w' => e = .returned r.toV ∧ Below w.heap.size w w') : FnSpec P f bs bs r where
  ok := hf
  calls := fun w L vs hl hpre hrep => (h w L vs hl hrep hpre.glob).mono fun e w' ⟨he, hb⟩ => by
    have hL : ∀ b p, (if b < w.heap.size then L b else .sh) = .my p → b < w.heap.size ∧ L b = .my p := fun b p h => by
      by_cases hb : b < w.heap.size
      · rw [if_pos hb] at h; exact ⟨hb, h⟩
      · rw [if_neg hb] at h; cases h
    refine ⟨r.toV, fun b => if b < w.heap.size then L b else .sh, he, ⟨hb.os, hb.tape, hb.output, hb.size, fun b hlt _ => hb.block b hlt⟩,
      ⟨fun b p h => Nat.lt_of_lt_of_le (hL b p h).1 hb.size, fun b b' p h h' => hpre.inj b b' p (hL b p h).2 (hL b' p h').2, fun b p h e => ?_, fun b p _ h => ⟨p, (hL b p h).2⟩, fun b hlt => ?_, fun b hge h => ?_⟩, fun b p h => ?_, fun i x u hx hu => ?_, toV_rep hr⟩
    · obtain ⟨i, q, e', _⟩ := hpre.head b p (hL b p h).2
      rw [e] at e'; cases e'
    · show (if b < w.heap.size then L b else .sh) = .fo ↔ _
      rw [if_pos hlt]
    · have h : (if b < w.heap.size then L b else .sh) = .fo := h
      rw [if_neg (by omega)] at h; cases h
    · obtain ⟨i, q, e', h2⟩ := hpre.head b p (hL b p h).2
      exact ⟨i, q, e', by omega⟩
    · refine (hrep i x u hx hu).frame hb.size hb.os hb.tape hb.output (fun b h1 h2 => ⟨?_, hb.block b h2⟩) _ fun p hp => ⟨p, hp, fun b q h1 => ⟨?_, ?_⟩⟩
      · show (if b < w.heap.size then L b else .sh) = .sh
        rw [if_pos h2]; exact h1
      · show (if b < w.heap.size then L b else .sh) = _
        rw [if_pos (hpre.lt b _ h1)]; exact h1
      · exact hb.block b (hpre.lt b _ h1)
end FM
namespace Go.Proofs.YtkkcnppgcnmikaaGreatDoor
open Go FM Go.Proofs
set_option maxRecDepth 10000
set_option maxHeartbeats 1600000
set_option linter.all false
abbrev Str := List UInt8
def azL : Str := [97, 98, 99, 100, 101, 102, 103, 104, 105, 106, 107, 108, 109, 110, 111, 112, 113, 114, 115, 116, 117, 118, 119, 120, 121, 122]
theorem trim_spec (s c : Str) (hs : s.length ≤ 9223372036854775807) (hc : c.length ≤ 1000) (ha : ∀ (j : Nat) b, c[j]? = some b → b.toNat < 128) : FnSpec Sy.P 134 [.str s, .str c] [.str s, .str c] (.str (Lib.trimS s c)) := by
  refine FnSpec.ofPlain ⟨_, Tryz.func134, rfl, rfl⟩ rfl fun w L vs hl hrep _ => ?_
  match vs, hl, hrep with
  | [u, v], _, hrep =>
    have h1 := hrep 0 _ _ rfl rfl
    have h2 := hrep 1 _ _ rfl rfl
    cases h1; cases h2
    have := Any.strings_Trim_ascii ltrim (fun w => Tryz.zeroValue233 w) (by kernel_rfl) ⟨s.toArray⟩ ⟨c.toArray⟩ w (by rw [mk_size]; exact hs) (by rw [mk_size]; omega) (by simpa using ha)
    exact this
end Go.Proofs.YtkkcnppgcnmikaaGreatDoor

/- Accounts: what is right. -/
namespace Go.Proofs.YtkkcnppgcnmikaaGreatDoor
open Go FM Go.Proofs
set_option maxRecDepth 10000
set_option maxHeartbeats 3200000
set_option linter.all false
def azB (c : UInt8) : Bool := decide (97 ≤ c.toNat ∧ c.toNat ≤ 122)
def nmB (s : Str) : Bool := decide (0 < s.length ∧ s.length ≤ 8) && s.all azB
theorem azL_has (c : UInt8) : azL.contains c = azB c := by
  have h : ∀ n, n < 256 → azL.contains (UInt8.ofNat n) = azB (UInt8.ofNat n) := by decide +kernel
  have := h c.toNat c.toNat_lt
  rwa [UInt8.ofNat_toNat] at this
theorem mem_dropW {p : UInt8 → Bool} {c : UInt8} (hc : p c = false) : ∀ {l : Str}, c ∈ l → c ∈ l.dropWhile p
  | [], h => by cases h
  | a :: l, h => by
    rw [List.dropWhile_cons]
    cases ha : p a with
    | true =>
      rw [if_pos rfl]
      rcases List.mem_cons.1 h with rfl | h
      · rw [ha] at hc; cases hc
      · exact mem_dropW hc h
    | false => rw [if_neg (by simp)]; exact h
theorem dropW_all {p : UInt8 → Bool} : ∀ {l : Str}, l.all p = true → l.dropWhile p = []
  | [], _ => rfl
  | a :: l, h => by
    rw [List.all_cons, Bool.and_eq_true] at h
    rw [List.dropWhile_cons, h.1, if_pos rfl]
    exact dropW_all h.2
theorem trim_az (s : Str) : (Lib.trimS s azL = []) ↔ s.all azB = true := by
  have hp : (fun c => azL.contains c) = azB := funext azL_has
  unfold Lib.trimS Lib.trimLeftS Lib.trimRightS
  rw [hp]
  constructor
  · intro h
    rw [List.all_eq_true]
    intro c hc
    refine Classical.byContradiction fun hn => ?_
    have hn : azB c = false := by simpa using hn
    have h1 := mem_dropW (p := azB) hn (List.mem_reverse.2 hc)
    have h2 := mem_dropW (p := azB) hn (List.mem_reverse.2 h1)
    rw [h] at h2; cases h2
  · intro h
    have : s.reverse.all azB = true := by rw [List.all_reverse]; exact h
    rw [dropW_all this]; rfl
theorem named_spec (s : Str) (hs : s.length ≤ 9223372036854775807) : FnSpec Sy.P 121 [.str s] [.str s] (.bool (nmB s)) := by
  refine FnSpec.enter (S := Sy) 0 Tryz.func121 rfl rfl rfl Tryz.ntmps121 rfl rfl rfl rfl fun v0 => ?_
  (repeat' (first | refine w9x ?_ | (refine w9c ?_ ?_ <;> intro _ <;> try exact w9o) | (refine w9d ?_ ?_ <;> intro _ <;> try exact w9s) | (refine w9q ?_; intro bnil hbnil)))
  refine CW.loop (fun k : Nat => [(0, .av (.str s)), (6, .av (.sl false 1 (s.map b8))), (7, .av (.int (s.length))), (8, .av (.int (k)))]) (fun k => k ≤ s.length ∧ (s.take k).all azB = true) (fun k => s.length - k) (0) ?_ (by exact w9a) ?_
  · exact ⟨Nat.zero_le _, rfl⟩
  intro k ⟨hk, ha⟩
  by_cases hkl : k < s.length
  · have hx : s[k]? = some s[k] := List.getElem?_eq_getElem hkl
    have hm : s[k] ∈ s := List.getElem_mem hkl
    have hat : (s.take (k + 1)).all azB = azB s[k] := by rw [List.take_succ_eq_append_getElem hkl, List.all_append, ha]; simp
    generalize s[k] = c at *
    by_cases hc : 97 ≤ c.toNat ∧ c.toNat ≤ 122
    · rw [show azB c = true from decide_eq_true hc] at hat
      (repeat' (first | refine w9x ?_ | (refine w9c ?_ ?_ <;> intro _ <;> try exact w9o) | (refine w9d ?_ ?_ <;> intro _ <;> try exact w9s) | (refine w9q ?_; intro bnil hbnil)))
      all_goals first | (exfalso; omega) | skip
      refine ⟨k+1, ?_, by first | omega | (simp only; omega), by exact w9a⟩
      exact ⟨by omega, hat⟩
    · have hno : nmB s = false := by
        unfold nmB
        rw [List.all_eq_false.2 ⟨c, hm, by rw [show azB c = false from decide_eq_false hc]; simp⟩, Bool.and_false]
      rw [hno]
      (repeat' (first | refine w9x ?_ | (refine w9c ?_ ?_ <;> intro _ <;> try exact w9o) | (refine w9d ?_ ?_ <;> intro _ <;> try exact w9s) | (refine w9q ?_; intro bnil hbnil)))
      all_goals first | (exfalso; omega) | exact .mk rfl rfl rfl
  · obtain rfl : s.length = k := by omega
    rw [List.take_length] at ha
    have hn : nmB s = decide (0 < s.length ∧ s.length ≤ 8) := by unfold nmB; rw [ha, Bool.and_true]
    rw [hn]
    (repeat' (first | refine w9x ?_ | (refine w9c ?_ ?_ <;> intro _ <;> try exact w9o) | (refine w9d ?_ ?_ <;> intro _ <;> try exact w9s) | (refine w9q ?_; intro bnil hbnil)))
    all_goals first | (exfalso; omega) | exact .mk rfl (congrArg AV.bool (by first | exact decide_eq_true (by omega) | exact decide_eq_false (by omega) | (rw [decide_eq_decide]; omega))) rfl
theorem namedR_spec (s : Str) (hs : s.length ≤ 9223372036854775807) : FnSpec Sy.P 78 [.str s] [.str s] (.bool (nmB s)) := by
  have hT := trim_spec s azL hs (by decide) (fun j b h => by
    have : ∀ b ∈ azL, b.toNat < 128 := by decide
    exact this b (List.mem_of_getElem? h))
  have hta := trim_az s
  by_cases h0 : s = []
  · subst h0
    refine FnSpec.enter (S := Sy) 0 Tryz.func78 rfl rfl rfl Tryz.ntmps78 rfl rfl rfl rfl fun v0 => ?_
    (repeat' (first | refine w9x ?_ | refine w9p (hT) ?_ | (refine w9c ?_ ?_ <;> intro _ <;> try exact w9o) | (refine w9d ?_ ?_ <;> intro _ <;> try exact w9s) | (refine w9q ?_; intro bnil hbnil)))
    all_goals first | exact .mk rfl rfl rfl | (exfalso; contradiction) | skip
  · have hl0 : 0 < s.length := List.length_pos_iff.2 h0
    by_cases h8 : s.length ≤ 8
    · have hn : nmB s = s.all azB := by unfold nmB; rw [decide_eq_true ⟨hl0, h8⟩, Bool.true_and]
      by_cases ht : Lib.trimS s azL = []
      · rw [hn, hta.1 ht]
        refine FnSpec.enter (S := Sy) 0 Tryz.func78 rfl rfl rfl Tryz.ntmps78 rfl rfl rfl rfl fun v0 => ?_
        (repeat' (first | refine w9x ?_ | refine w9p (hT) ?_ | (refine w9c ?_ ?_ <;> intro _ <;> try exact w9o) | (refine w9d ?_ ?_ <;> intro _ <;> try exact w9s) | (refine w9q ?_; intro bnil hbnil)))
        all_goals first | (exfalso; omega) | (exfalso; contradiction) | exact .mk rfl (congrArg AV.bool (by simp [ht])) rfl
      · rw [hn, show s.all azB = false by simpa using (fun h => ht (hta.2 h))]
        refine FnSpec.enter (S := Sy) 0 Tryz.func78 rfl rfl rfl Tryz.ntmps78 rfl rfl rfl rfl fun v0 => ?_
        (repeat' (first | refine w9x ?_ | refine w9p (hT) ?_ | (refine w9c ?_ ?_ <;> intro _ <;> try exact w9o) | (refine w9d ?_ ?_ <;> intro _ <;> try exact w9s) | (refine w9q ?_; intro bnil hbnil)))
        all_goals first | (exfalso; omega) | (exfalso; contradiction) | exact .mk rfl (congrArg AV.bool (by simp [ht])) rfl
    · rw [show nmB s = false by unfold nmB; rw [decide_eq_false (fun h => h8 h.2), Bool.false_and]]
      refine FnSpec.enter (S := Sy) 0 Tryz.func78 rfl rfl rfl Tryz.ntmps78 rfl rfl rfl rfl fun v0 => ?_
      (repeat' (first | refine w9x ?_ | (refine w9c ?_ ?_ <;> intro _ <;> try exact w9o) | (refine w9d ?_ ?_ <;> intro _ <;> try exact w9s) | (refine w9q ?_; intro bnil hbnil)))
      all_goals first | (exfalso; omega) | (exfalso; contradiction) | exact .mk rfl (congrArg AV.bool (by simp)) rfl
end Go.Proofs.YtkkcnppgcnmikaaGreatDoor
