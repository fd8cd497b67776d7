/- Strings and numbers: the library's functions, by their contracts. -/
import Derived.Test.YtkkcnppgcnmikaaGreatDoorHanm
import Derived.Test.YtkkcnppgcnmikaaGreatDoorLitnm
import Derived.Test.YtkkcnppgcnmikaaGreatDoorChecked
import Derived.Shelf.Strings.OnBuilder
import Derived.Shelf.Strings.SplitShaped
import Derived.Shelf.Strconv.AtoiErr
import Derived.Lib.Walk
import Derived.Lib.AppendIntMem
import Derived.Shelf.Strconv.Atoi
import Derived.Lib.AtoiErrMem
import Derived.Lib.SplitLaws
import Derived.Shelf.Strings.BuilderX
import Derived.Test.YtkkcnppgcnmikaaGreatDoorHqnm
import Derived.Test.YtkkcnppgcnmikaaGreatDoorHpnm
import Derived.Test.YtkkcnppgcnmikaaGreatDoorLgnm
import Derived.Test.YtkkcnppgcnmikaaGreatDoorFsnm
namespace FM
open Go Go.RowKit
set_option linter.all false
/-- A call that reads plain arguments, lays new memory only, and answers what is plain. -/
theorem FnSpec.ofVal {P : Program} {f : Nat} {bs : List AV} {r : AV} (hf : FnOk P f)
    (h : ∀ (w : World) (L : Nat → Lab) (vs : List Value), vs.length = bs.length → (∀ i x v, bs[i]? = some x → vs[i]? = some v → Rep L w (some [i]) x v) → FM.Glob L w → Calls P f vs.toArray w fun e w' => ∃ v0, e = .returned v0 ∧ (∀ (L : Nat → Lab) (w : World) π, Rep L w π r v0) ∧ Below w.heap.size w w') : FnSpec P f bs bs r where
  ok := hf
  calls := fun w L vs hl hpre hrep => (h w L vs hl hrep hpre.glob).mono fun e w' ⟨v0, he, hr, hb⟩ => by
    have hL : ∀ b p, (if b < w.heap.size then L b else .sh) = .my p → b < w.heap.size ∧ L b = .my p := fun b p h => by
      by_cases hb : b < w.heap.size
      · rw [if_pos hb] at h; exact ⟨hb, h⟩
      · rw [if_neg hb] at h; cases h
    refine ⟨v0, fun b => if b < w.heap.size then L b else .sh, he, ⟨hb.os, hb.tape, hb.output, hb.size, fun b hlt _ => hb.block b hlt⟩,
      ⟨fun b p h => Nat.lt_of_lt_of_le (hL b p h).1 hb.size, fun b b' p h h' => hpre.inj b b' p (hL b p h).2 (hL b' p h').2, fun b p h e => ?_, fun b p _ h => ⟨p, (hL b p h).2⟩, fun b hlt => ?_, fun b hge h => ?_⟩, fun b p h => ?_, fun i x u hx hu => ?_, hr _ _ _⟩
    · obtain ⟨i, q, e', _⟩ := hpre.head b p (hL b p h).2
      rw [e] at e'; cases e'
    · show (if b < w.heap.size then L b else .sh) = .fo ↔ _
      rw [if_pos hlt]
    · have h : (if b < w.heap.size then L b else .sh) = .fo := h
      rw [if_neg (by omega)] at h; cases h
    · obtain ⟨i, q, e', h2⟩ := hpre.head b p (hL b p h).2
      exact ⟨i, q, e', by omega⟩
    · refine (hrep i x u hx hu).frame hb.size hb.os hb.tape hb.output (fun b h1 h2 => ⟨?_, hb.block b h2⟩) _ fun p hp => ⟨p, hp, fun b q h1 => ⟨?_, ?_⟩⟩
      · show (if b < w.heap.size then L b else .sh) = .sh
        rw [if_pos h2]; exact h1
      · show (if b < w.heap.size then L b else .sh) = _
        rw [if_pos (hpre.lt b _ h1)]; exact h1
      · exact hb.block b (hpre.lt b _ h1)
end FM
namespace Go.Proofs.YtkkcnppgcnmikaaGreatDoor
open Go FM Go.Proofs
set_option maxRecDepth 10000
set_option maxHeartbeats 1600000
set_option linter.all false
theorem itoa_spec (n : Int) (h0 : -9223372036854775808 ≤ n) (h1 : n ≤ 9223372036854775807) : FnSpec Sy.P 38 [.int n] [.int n] (.str (Lib.itoa n)) := by
  refine FnSpec.ofVal ⟨_, Tryz.func38, rfl, rfl⟩ fun w L vs hl hrep hg => ?_
  match vs, hl, hrep with
  | [u], _, hrep =>
    have e1 := hrep 0 _ _ rfl rfl
    cases e1
    refine (Any.strconv_Itoa litoa n h0 h1 w hg.ok.pow).mono fun e w' ⟨he, k, os, hw⟩ => ⟨_, he, fun _ _ _ => .str, ?_⟩
    rw [hw]; exact Lib.below_grow _ _ (Nat.le_refl _) _ _
end Go.Proofs.YtkkcnppgcnmikaaGreatDoor

/- A house: its small methods, walked. -/
namespace Go.Proofs.YtkkcnppgcnmikaaGreatDoor
open Go FM Go.Proofs
set_option maxRecDepth 10000
set_option maxHeartbeats 1600000
set_option linter.all false
abbrev hsV (A : List Ac) (O : List Dl) (k : Str) (n : Int) : AV := .pt true [.sl false 3 (A.map acA), .sl false 6 (O.map dlA), lgO k n]
abbrev hsS (A : List Ac) (O : List Dl) (k : Str) (n : Int) : AV := .pt false [.sl false 3 (A.map acA), .sl false 6 (O.map dlA), lgS k n]
theorem sh_hs {A : List Ac} {O : List Dl} {k : Str} {n : Int} : (hsV A O k n).sh = hsS A O k n := by
  simp only [AV.sh, AV.shL]
  rw [shL_map acA A acA fun x => rfl, shL_map dlA O dlA fun x => rfl]
theorem new_spec : FnSpec Sy.P 6 [] [] (hsV [] [] [] 0) := by
  refine FnSpec.enter (S := Sy) 0 Tryz.func6 rfl rfl rfl Tryz.ntmps6 rfl rfl rfl rfl fun v0 => ?_
  (repeat' (first | (apply J.bldBox (c1 := 3) (c2 := 6) <;> (first | rfl | skip)) | refine w9x ?_ | refine w9p (logNew_spec) ?_ | (refine w9c ?_ ?_ <;> intro _ <;> try exact w9o) | (refine w9d ?_ ?_ <;> intro _ <;> try exact w9s) | (refine w9q ?_; intro bnil hbnil)))
  exact .mk rfl rfl rfl
theorem size_spec (A : List Ac) (O : List Dl) (k : Str) (n : Int) : FnSpec Sy.P 9 [hsS A O k n] [hsS A O k n] (.tup [.int k.length, .int n]) := by
  have h1 := logSize_spec k n
  refine FnSpec.enter (S := Sy) 0 Tryz.func9 rfl rfl rfl Tryz.ntmps9 rfl rfl rfl rfl fun v0 => ?_
  (repeat' (first | refine w9x ?_ | refine w9p (h1) ?_ | (refine w9c ?_ ?_ <;> intro _ <;> try exact w9o) | (refine w9d ?_ ?_ <;> intro _ <;> try exact w9s) | (refine w9q ?_; intro bnil hbnil)))
  exact .mk rfl rfl rfl
theorem accounts_spec (A : List Ac) (O : List Dl) (k : Str) (n : Int) (hA : A.length ≤ 1000) : FnSpec Sy.P 11 [hsS A O k n] [hsS A O k n] (.sl true 3 (A.map acA)) := by
  have h1 := cloneAc_spec A (by omega)
  refine FnSpec.enter (S := Sy) 0 Tryz.func11 rfl rfl rfl Tryz.ntmps11 rfl rfl rfl rfl fun v0 => ?_
  (repeat' (first | refine w9x ?_ | refine w9p (h1) ?_ | (refine w9c ?_ ?_ <;> intro _ <;> try exact w9o) | (refine w9d ?_ ?_ <;> intro _ <;> try exact w9s) | (refine w9q ?_; intro bnil hbnil)))
  exact .mk rfl rfl rfl
theorem hfind1_spec (a : Ac) (s : Str) : FnSpec Sy.P 75 [acA a, .pt false [.str s]] [acA a, .pt false [.str s]] (.bool (decide (a.1 = s))) := by
  refine FnSpec.enter (S := Sy) 0 Tryz.func75 rfl rfl rfl Tryz.ntmps75 rfl rfl rfl rfl fun v0 => ?_
  (repeat' (first | refine w9x ?_ | (refine w9c ?_ ?_ <;> intro _ <;> try exact w9o) | (refine w9d ?_ ?_ <;> intro _ <;> try exact w9s) | (refine w9q ?_; intro bnil hbnil)))
  exact .mk rfl rfl rfl
theorem hfind1_arg {s : Str} {m : Nat} {v : Nat → Value} {N : Nat} {σ : St} {t q : Nat} (ht : FM.get σ t = .clo 75 [q]) (h1 : FM.get σ q = .av (.pt true [.str s])) : ArgOk (Sy.fixed m v) N σ (.tmp t) true (fnAc (fun _ => True) fun a => decide (a.1 = s)) :=
  cloAc (zs := [.pt false [.str s]]) ht (.cons h1 rfl .nil) (hfind1_spec ([], 0, 0, ()) []).ok fun x _ => hfind1_spec x s
theorem hfind_spec (A : List Ac) (O : List Dl) (k : Str) (n : Int) (s : Str) (hl : A.length ≤ 1000) : FnSpec Sy.P 33 [hsS A O k n, .str s] [hsS A O k n, .str s] (.int (fA A s)) := by
  have hI := indexAc_spec A (fun _ => True) (fun a => decide (a.1 = s)) (by omega) (fun _ _ => trivial)
  refine FnSpec.enter (S := Sy) 0 Tryz.func33 rfl rfl rfl Tryz.ntmps33 rfl rfl rfl rfl fun v0 => ?_
  (repeat' (first | ((with_reducible apply J.step); rfl; (exact s_mkf (caps := [3]) rfl rfl)) | refine w9x ?_ | ((with_reducible first | apply J.callP (hI) | apply J.callPQ (hI)); rfl; rfl; (repeat' (first | exact ArgsOk.nil | exact hfind1_arg rfl rfl | apply ArgsOk.cons | exact ArgOk.pl rfl rfl | exact ArgOk.br rfl AV.noConfusion (by first | rfl | exact sh_int | exact sh_rows | exact sh_rowsO | exact sh_box | exact sh_map (fun _ => rfl)))); (first | rfl | exact gn0 | exact gnI)) | (refine w9c ?_ ?_ <;> intro _ <;> try exact w9o) | (refine w9d ?_ ?_ <;> intro _ <;> try exact w9s) | (refine w9q ?_; intro bnil hbnil)))
  exact .mk rfl rfl rfl
end Go.Proofs.YtkkcnppgcnmikaaGreatDoor
