/- Strings and numbers: the library's functions, by their contracts. -/
import Derived.Test.YtkkcnppgcnmikaaGreatDoorHam
import Derived.Test.YtkkcnppgcnmikaaGreatDoorLitm
import Derived.Lib.Walk
import Derived.Lib.AppendIntMem
import Derived.Shelf.Strconv.Atoi
import Derived.Shelf.Strconv.AtoiErr
import Derived.Lib.AtoiErrMem
import Derived.Lib.SplitLaws
import Derived.Shelf.Strings.BuilderX
import Derived.Test.YtkkcnppgcnmikaaGreatDoorHqm
import Derived.Test.YtkkcnppgcnmikaaGreatDoorHpm
import Derived.Test.YtkkcnppgcnmikaaGreatDoorLqm
import Derived.Test.YtkkcnppgcnmikaaGreatDoorFsm
namespace FM
open Go Go.RowKit
set_option linter.all false
/-- A call that reads plain arguments, lays new memory only, and answers what is plain. -/
theorem FnSpec.ofVal {P : Program} {f : Nat} {bs : List AV} {r : AV} (hf : FnOk P f)
    (h : ∀ (w : World) (L : Nat → Lab) (vs : List Value), vs.length = bs.length → (∀ i x v, bs[i]? = some x → vs[i]? = some v → Rep L w (some [i]) x v) → FM.Glob L w → Calls P f vs.toArray w fun e w' => ∃ v0, e = .returned v0 ∧ (∀ (L : Nat → Lab) (w : World) π, Rep L w π r v0) ∧ Below w.heap.size w w') : FnSpec P f bs bs r where
  ok := hf
  calls := fun w L vs hl hpre hrep => (h w L vs hl hrep hpre.glob).mono fun e w' ⟨v0, he, hr, hb⟩ => by
    have hL : ∀ b p, (if b < w.heap.size then L b else .sh) = .my p → b < w.heap.size ∧ L b = .my p := fun b p h => by
      by_cases hb : b < w.heap.size
      · rw [if_pos hb] at h; exact ⟨hb, h⟩
      · rw [if_neg hb] at h; cases h
    refine ⟨v0, fun b => if b < w.heap.size then L b else .sh, he, ⟨hb.os, hb.tape, hb.output, hb.size, fun b hlt _ => hb.block b hlt⟩,
      ⟨fun b p h => Nat.lt_of_lt_of_le (hL b p h).1 hb.size, fun b b' p h h' => hpre.inj b b' p (hL b p h).2 (hL b' p h').2, fun b p h e => ?_, fun b p _ h => ⟨p, (hL b p h).2⟩, fun b hlt => ?_, fun b hge h => ?_⟩, fun b p h => ?_, fun i x u hx hu => ?_, hr _ _ _⟩
    · obtain ⟨i, q, e', _⟩ := hpre.head b p (hL b p h).2
      rw [e] at e'; cases e'
    · show (if b < w.heap.size then L b else .sh) = .fo ↔ _
      rw [if_pos hlt]
    · have h : (if b < w.heap.size then L b else .sh) = .fo := h
      rw [if_neg (by omega)] at h; cases h
    · obtain ⟨i, q, e', h2⟩ := hpre.head b p (hL b p h).2
      exact ⟨i, q, e', by omega⟩
    · refine (hrep i x u hx hu).frame hb.size hb.os hb.tape hb.output (fun b h1 h2 => ⟨?_, hb.block b h2⟩) _ fun p hp => ⟨p, hp, fun b q h1 => ⟨?_, ?_⟩⟩
      · show (if b < w.heap.size then L b else .sh) = .sh
        rw [if_pos h2]; exact h1
      · show (if b < w.heap.size then L b else .sh) = _
        rw [if_pos (hpre.lt b _ h1)]; exact h1
      · exact hb.block b (hpre.lt b _ h1)
/-- A call that lays one new row of strings, and answers it. -/
theorem FnSpec.ofStrs {P : Program} {f : Nat} {bs : List AV} (ls : List (List UInt8)) (hf : FnOk P f) (t : TypeId)
    (h : ∀ (w : World) (L : Nat → Lab) (vs : List Value), vs.length = bs.length → (∀ i x v, bs[i]? = some x → vs[i]? = some v → Rep L w (some [i]) x v) → FM.Glob L w → Calls P f vs.toArray w fun e w' => e = .returned (.slice (some ⟨w.heap.size, 0, none⟩) ls.length ls.length) ∧ w' = w.alloc (.cells (ls.map fun l => Value.string ⟨l.toArray⟩).toArray t)) : FnSpec P f bs bs (.sl true 1 (ls.map .str)) where
  ok := hf
  calls := fun w L vs hl hpre hrep => (h w L vs hl hrep hpre.glob).mono fun e w' ⟨he, hw⟩ => by
    have hnb : w'.heap[w.heap.size]? = some (.cells (ls.map fun l => Value.string ⟨l.toArray⟩).toArray t (0, 0)) := by rw [hw]; exact heap_alloc_new w _
    have hws : w'.heap.size = w.heap.size + 1 := by rw [hw]; exact Array.size_push ..
    have hwk : ∀ b, b < w.heap.size → w'.heap[b]? = w.heap[b]? := fun b hb => by
      rw [hw]
      show (w.heap.push _)[b]? = _
      rw [Array.getElem?_push_lt hb, Array.getElem?_eq_getElem hb]
    have hwo : w'.os = w.os := by rw [hw]; rfl
    have hwt : w'.tape = w.tape := by rw [hw]; rfl
    have hwu : w'.output = w.output := by rw [hw]; rfl
    clear hw
    obtain ⟨L', hL'⟩ : ∃ L' : Nat → Lab, L' = fun b' => if b' = w.heap.size then .my [bs.length] else L b' := ⟨_, rfl⟩
    have l1 : L' w.heap.size = .my [bs.length] := by rw [hL']; simp
    have l2 : ∀ b', b' ≠ w.heap.size → L' b' = L b' := fun b' h => by rw [hL']; simp [h]
    clear hL'
    have lno : ∀ b', L b' ≠ .my [bs.length] := fun b' h => by obtain ⟨i, q, e1, e2⟩ := hpre.head b' _ h; cases e1; omega
    refine ⟨_, L', he, ⟨hwo, hwt, hwu, by omega, fun b hb _ => hwk b hb⟩, ⟨fun b' p hp => ?_, fun b1 b2 p h1 h2 => ?_, fun b' p hp e => ?_, fun b' p hlt hp => ?_, fun b' hlt => ?_, fun b' h1 h2 => ?_⟩, fun b' p hp => ?_, fun i x u hx hu => ?_, ?_⟩
    · by_cases e : b' = w.heap.size
      · omega
      · rw [l2 b' e] at hp; have := hpre.lt b' p hp; omega
    · by_cases e1 : b1 = w.heap.size
      · subst e1
        rw [l1] at h1; cases h1
        by_cases e2 : b2 = w.heap.size
        · exact e2.symm
        · rw [l2 b2 e2] at h2; exact absurd h2 (lno b2)
      · rw [l2 b1 e1] at h1
        by_cases e2 : b2 = w.heap.size
        · subst e2
          rw [l1] at h2; cases h2
          exact absurd h1 (lno b1)
        · rw [l2 b2 e2] at h2; exact hpre.inj b1 b2 p h1 h2
    · subst e
      by_cases e : b' = w.heap.size
      · subst e; rw [l1] at hp; cases hp
      · rw [l2 b' e] at hp; obtain ⟨i, q, h, _⟩ := hpre.head b' [] hp; cases h
    · rw [l2 b' (by omega)] at hp; exact ⟨p, hp⟩
    · rw [l2 b' (by omega)]
    · by_cases e : b' = w.heap.size
      · subst e; rw [l1] at h2; cases h2
      · rw [l2 b' e] at h2; exact hpre.new b' h1 h2
    · by_cases e : b' = w.heap.size
      · subst e; rw [l1] at hp; cases hp; exact ⟨_, [], rfl, Nat.le_refl _⟩
      · rw [l2 b' e] at hp; obtain ⟨i, q, h, h2⟩ := hpre.head b' p hp; exact ⟨i, q, h, Nat.le_of_lt h2⟩
    · refine (hrep i x u hx hu).frame (by omega) hwo hwt hwu (fun b h1 h2 => ⟨by rw [l2 b (by omega)]; exact h1, hwk b h2⟩) _ fun p hp => ⟨p, hp, fun b q h1 => ?_⟩
      have hb := hpre.lt b _ h1
      exact ⟨by rw [l2 b (by omega)]; exact h1, hwk b hb⟩
    · have hsl : (ls.map AV.str).length = ls.length := List.length_map _
      rw [← hsl]
      refine .slO (fun o => .string ⟨(ls.getD o []).toArray⟩) l1 hnb (by rw [hsl]; exact Nat.le_refl _) (by simp) (fun x hx => by obtain ⟨y, _, rfl⟩ := List.mem_map.1 hx; rfl) (fun o ho => ?_) fun o y hy => ?_
      · rw [hsl, Nat.mul_one] at ho
        simp [ho, List.getD_eq_getElem?_getD]
      · rw [flat_single (fun x hx => by obtain ⟨y, _, rfl⟩ := List.mem_map.1 hx; rfl), List.getElem?_map, Option.map_eq_some_iff] at hy
        obtain ⟨z, hz, rfl⟩ := hy
        rw [List.getD_eq_getElem?_getD, hz]; exact .str
end FM
namespace Go.Proofs.YtkkcnppgcnmikaaGreatDoor
open Go FM Go.Proofs
set_option maxRecDepth 10000
set_option maxHeartbeats 1600000
set_option linter.all false
theorem itoa_spec (n : Int) (h0 : -9223372036854775808 ≤ n) (h1 : n ≤ 9223372036854775807) : FnSpec Sy.P 38 [.int n] [.int n] (.str (Lib.itoa n)) := by
  refine FnSpec.ofVal ⟨_, Tryz.func38, rfl, rfl⟩ fun w L vs hl hrep hg => ?_
  match vs, hl, hrep with
  | [u], _, hrep =>
    have e1 := hrep 0 _ _ rfl rfl
    cases e1
    refine (Any.strconv_Itoa litoa n h0 h1 w hg.ok.pow).mono fun e w' ⟨he, k, os, hw⟩ => ⟨_, he, fun _ _ _ => .str, ?_⟩
    rw [hw]; exact Lib.below_grow _ _ (Nat.le_refl _) _ _
theorem pair_dead (n : Int) (v : Value) (L : Nat → Lab) (w : World) (π : Option (List Nat)) : Rep L w π (.tup [.int n, .dead]) (.tuple #[.int .i64 n, v]) := by
  refine .tup (vs := [_, _]) rfl fun i x u hx hv => ?_
  match i with
  | 0 => simp only [List.getElem?_cons_zero, Option.some.injEq] at hx hv; subst hx; subst hv; exact .int
  | 1 => simp only [List.getElem?_cons_succ, List.getElem?_cons_zero, Option.some.injEq] at hx hv; subst hx; subst hv; exact .dead
  | i + 2 => simp at hx
/-- A number read; what is none reads as 0. -/
def numOf (s : Str) : Int := (Lib.atoi s).getD 0
theorem atoi_spec (s : Str) (hs : s.length ≤ 18) : FnSpec Sy.P 73 [.str s] [.str s] (.tup [.int (numOf s), .dead]) := by
  refine FnSpec.ofVal ⟨_, Tryz.func73, rfl, rfl⟩ fun w L vs hl hrep hg => ?_
  match vs, hl, hrep with
  | [u], _, hrep =>
    have e1 := hrep 0 _ _ rfl rfl
    cases e1
    cases h : Lib.atoi s with
    | some n =>
      have e : numOf s = n := by unfold numOf; rw [h]; rfl
      rw [e]
      refine (Any.strconv_Atoi { latoi with } ⟨s.toArray⟩ n (by rw [mk_size]; exact hs) h w).mono fun e w' ⟨he, t, hw⟩ => ⟨_, he, pair_dead n _, ?_⟩
      rw [hw]; exact Lib.bytesWorld_below _ _ _
    | none =>
      have e : numOf s = 0 := by unfold numOf; rw [h]; rfl
      rw [e]
      obtain ⟨tp, p, hv⟩ := hg.ok.syn
      exact (Any.strconv_Atoi_err latoi ⟨s.toArray⟩ (by rw [mk_size]; exact hs) h _ w hv (.inr ⟨tp, p, rfl⟩)).mono fun e w' ⟨N, he, _, _, hb⟩ => ⟨_, he, pair_dead 0 _, hb⟩
/-- The pieces of a text, cut at each separator. -/
def pieces (s sep : Str) : List Str := (Lib.splitB ⟨sep.toArray⟩ 0 (Lib.countB ⟨s.toArray⟩ ⟨sep.toArray⟩) ⟨s.toArray⟩).map fun b => b.data.toList
theorem split_spec (s sep : Str) (hs : s.length < 4294967281) (h1 : 1 ≤ sep.length) : FnSpec Sy.P 51 [.str s, .str sep] [.str s, .str sep] (.sl true 1 ((pieces s sep).map .str)) := by
  refine FnSpec.ofStrs _ ⟨_, Tryz.func51, rfl, rfl⟩ 9 fun w L vs hl hrep hg => ?_
  match vs, hl, hrep with
  | [u, v], _, hrep =>
    have e1 := hrep 0 _ _ rfl rfl
    have e2 := hrep 1 _ _ rfl rfl
    cases e1; cases e2
    obtain ⟨m, hm⟩ := hg.ok.mx
    have := Any.strings_Split { lsplit with } (by kernel_rfl) ⟨s.toArray⟩ ⟨sep.toArray⟩ m w (by rw [mk_size]; exact hs) hm (by rw [mk_size]; exact h1)
    have hlen := Lib.splitB_all ⟨sep.toArray⟩ (by rw [mk_size]; exact h1) 0 _ ⟨s.toArray⟩ rfl
    refine this.mono fun e w' ⟨he, hw⟩ => ⟨?_, ?_⟩
    · rw [he, pieces, List.length_map, hlen]
    · rw [hw, pieces, List.map_map]; rfl
theorem fields_spec (s : Str) (hs : s.length < 4294967281) (ha : ∀ b ∈ s, b.toNat < 128) : FnSpec Sy.P 90 [.str s] [.str s] (.sl true 1 ((Lib.fields s).map .str)) := by
  refine FnSpec.ofStrs _ ⟨_, Tryz.func90, rfl, rfl⟩ 9 fun w L vs hl hrep hg => ?_
  match vs, hl, hrep with
  | [u], _, hrep =>
    have e1 := hrep 0 _ _ rfl rfl
    cases e1
    exact Any.strings_Fields_laid lfields ⟨s.toArray⟩ w (by rw [mk_size]; exact hs) (fun j b h => ha b (List.mem_of_getElem? h)) hg.ok.spc
theorem joinX : Builder.Extra Tryz.prog ljoin_ren where
  sizeBuilder := by kernel_rfl
  liesBuilder := by kernel_rfl
  t5 := litoa.t5
  a5 := litoa.a5
  z5 := litoa.z5
  v5 := litoa.v5
  infoByte := by kernel_rfl
  cellsByte := by kernel_rfl
  sizeByte := by kernel_rfl
  neB5 := by decide
theorem join_spec (l : List Str) (sep : Str) (hN : l.length ≤ 140737488355328) (hlen : (Lib.join l sep).length ≤ 140737488355328) : FnSpec Sy.P 82 [.sl false 1 (l.map .str), .str sep] [.sl false 1 (l.map .str), .str sep] (.str (Lib.join l sep)) := by
  refine FnSpec.ofVal ⟨_, Tryz.func82, rfl, rfl⟩ fun w L vs hl hrep hg => ?_
  match vs, hl, hrep with
  | [u, v], _, hrep =>
    have e1 := hrep 0 _ _ rfl rfl
    have e2 := hrep 1 _ _ rfl rfl
    cases e2
    generalize hx : l.map AV.str = xs at e1
    have hm : (l.map fun s : Str => (⟨s.toArray⟩ : ByteArray)).map (·.data.toList) = l := by rw [List.map_map]; exact List.map_id' l
    cases e1 with
    | slE _ =>
      have : l = [] := List.map_eq_nil_iff.1 hx
      subst this
      refine (Any.strings_Join_none ljoin joinX _ _ ⟨sep.toArray⟩ w).mono fun e w' ⟨he, hw⟩ => ⟨_, he, fun _ _ _ => .str, hw ▸ RowKit.Below.refl _ _⟩
    | @slS _ _ _ b off cap q hcap hL hb hc hcell hr =>
      have hxl : xs.length = (l.map fun s : Str => (⟨s.toArray⟩ : ByteArray)).length := by rw [← hx, List.length_map, List.length_map]
      have := Any.strings_Join ljoin joinX b off cap (l.map fun s : Str => (⟨s.toArray⟩ : ByteArray)) ⟨sep.toArray⟩ w (fun j x hj => ?_) hb (by rw [List.length_map]; exact hN) (by rw [← hxl]; exact hcap) (by rw [hm]; exact hlen)
      · rw [hm, ← hxl] at this
        exact this.mono fun e w' ⟨he, hb⟩ => ⟨_, he, fun _ _ _ => .str, hb⟩
      · rw [List.getElem?_map, Option.map_eq_some_iff] at hj
        obtain ⟨s, hs, rfl⟩ := hj
        have hjl : j < xs.length := by rw [hxl, List.length_map]; exact (List.getElem?_eq_some_iff.1 hs).1
        have h1 := hcell j (by omega)
        have h2 := hr j (.str s) (by rw [← hx, flat_single (fun x hx => by obtain ⟨y, _, rfl⟩ := List.mem_map.1 hx; rfl), List.getElem?_map, hs]; rfl)
        rw [h1]
        generalize q j = qq at h2
        cases h2
        rfl
end Go.Proofs.YtkkcnppgcnmikaaGreatDoor

/- A house: its small methods, walked. -/
namespace Go.Proofs.YtkkcnppgcnmikaaGreatDoor
open Go FM Go.Proofs
set_option maxRecDepth 10000
set_option maxHeartbeats 1600000
set_option linter.all false
abbrev hsV (A : List Ac) (O : List Dl) (k : Str) (n : Int) : AV := .pt true [.sl false 3 (A.map acA), .sl false 6 (O.map dlA), lgO k n]
abbrev hsS (A : List Ac) (O : List Dl) (k : Str) (n : Int) : AV := .pt false [.sl false 3 (A.map acA), .sl false 6 (O.map dlA), lgS k n]
theorem sh_hs {A : List Ac} {O : List Dl} {k : Str} {n : Int} : (hsV A O k n).sh = hsS A O k n := by
  simp only [AV.sh, AV.shL]
  rw [shL_map acA A acA fun x => rfl, shL_map dlA O dlA fun x => rfl]
theorem new_spec : FnSpec Sy.P 6 [] [] (hsV [] [] [] 0) := by
  refine FnSpec.enter (S := Sy) 0 Tryz.func6 rfl rfl rfl Tryz.ntmps6 rfl rfl rfl rfl fun v0 => ?_
  (repeat' (first | (apply J.bldBox (c1 := 3) (c2 := 6) <;> (first | rfl | skip)) | refine w9x ?_ | refine w9p (logNew_spec) ?_ | (refine w9c ?_ ?_ <;> intro _ <;> try exact w9o) | (refine w9d ?_ ?_ <;> intro _ <;> try exact w9s) | (refine w9q ?_; intro bnil hbnil)))
  exact .mk rfl rfl rfl
theorem size_spec (A : List Ac) (O : List Dl) (k : Str) (n : Int) : FnSpec Sy.P 9 [hsS A O k n] [hsS A O k n] (.tup [.int k.length, .int n]) := by
  have h1 := logSize_spec k n
  refine FnSpec.enter (S := Sy) 0 Tryz.func9 rfl rfl rfl Tryz.ntmps9 rfl rfl rfl rfl fun v0 => ?_
  (repeat' (first | refine w9x ?_ | refine w9p (h1) ?_ | (refine w9c ?_ ?_ <;> intro _ <;> try exact w9o) | (refine w9d ?_ ?_ <;> intro _ <;> try exact w9s) | (refine w9q ?_; intro bnil hbnil)))
  exact .mk rfl rfl rfl
theorem accounts_spec (A : List Ac) (O : List Dl) (k : Str) (n : Int) (hA : A.length ≤ 1000) : FnSpec Sy.P 11 [hsS A O k n] [hsS A O k n] (.sl true 3 (A.map acA)) := by
  have h1 := cloneAc_spec A (by omega)
  refine FnSpec.enter (S := Sy) 0 Tryz.func11 rfl rfl rfl Tryz.ntmps11 rfl rfl rfl rfl fun v0 => ?_
  (repeat' (first | refine w9x ?_ | refine w9p (h1) ?_ | (refine w9c ?_ ?_ <;> intro _ <;> try exact w9o) | (refine w9d ?_ ?_ <;> intro _ <;> try exact w9s) | (refine w9q ?_; intro bnil hbnil)))
  exact .mk rfl rfl rfl
theorem offers_spec (A : List Ac) (O : List Dl) (k : Str) (n : Int) (hO : O.length ≤ 1000) : FnSpec Sy.P 13 [hsS A O k n] [hsS A O k n] (.sl true 6 (O.map dlA)) := by
  have h1 := cloneDl_spec O (by omega)
  refine FnSpec.enter (S := Sy) 0 Tryz.func13 rfl rfl rfl Tryz.ntmps13 rfl rfl rfl rfl fun v0 => ?_
  (repeat' (first | refine w9x ?_ | refine w9p (h1) ?_ | (refine w9c ?_ ?_ <;> intro _ <;> try exact w9o) | (refine w9d ?_ ?_ <;> intro _ <;> try exact w9s) | (refine w9q ?_; intro bnil hbnil)))
  exact .mk rfl rfl rfl
theorem hfind1_spec (a : Ac) (s : Str) : FnSpec Sy.P 75 [acA a, .pt false [.str s]] [acA a, .pt false [.str s]] (.bool (decide (a.1 = s))) := by
  refine FnSpec.enter (S := Sy) 0 Tryz.func75 rfl rfl rfl Tryz.ntmps75 rfl rfl rfl rfl fun v0 => ?_
  (repeat' (first | refine w9x ?_ | (refine w9c ?_ ?_ <;> intro _ <;> try exact w9o) | (refine w9d ?_ ?_ <;> intro _ <;> try exact w9s) | (refine w9q ?_; intro bnil hbnil)))
  exact .mk rfl rfl rfl
theorem hfind1_arg {s : Str} {m : Nat} {v : Nat → Value} {N : Nat} {σ : St} {t q : Nat} (ht : FM.get σ t = .clo 75 [q]) (h1 : FM.get σ q = .av (.pt true [.str s])) : ArgOk (Sy.fixed m v) N σ (.tmp t) true (fnAc (fun _ => True) fun a => decide (a.1 = s)) :=
  cloAc (zs := [.pt false [.str s]]) ht (.cons h1 rfl .nil) (hfind1_spec ([], 0, 0, ()) []).ok fun x _ => hfind1_spec x s
theorem hfind_spec (A : List Ac) (O : List Dl) (k : Str) (n : Int) (s : Str) (hl : A.length ≤ 1000) : FnSpec Sy.P 33 [hsS A O k n, .str s] [hsS A O k n, .str s] (.int (fA A s)) := by
  have hI := indexAc_spec A (fun _ => True) (fun a => decide (a.1 = s)) (by omega) (fun _ _ => trivial)
  refine FnSpec.enter (S := Sy) 0 Tryz.func33 rfl rfl rfl Tryz.ntmps33 rfl rfl rfl rfl fun v0 => ?_
  (repeat' (first | ((with_reducible apply J.step); rfl; (exact s_mkf (caps := [3]) rfl rfl)) | refine w9x ?_ | ((with_reducible first | apply J.callP (hI) | apply J.callPQ (hI)); rfl; rfl; (repeat' (first | exact ArgsOk.nil | exact hfind1_arg rfl rfl | apply ArgsOk.cons | exact ArgOk.pl rfl rfl | exact ArgOk.br rfl AV.noConfusion (by first | rfl | exact sh_int | exact sh_rows | exact sh_rowsO | exact sh_box | exact sh_map (fun _ => rfl)))); (first | rfl | exact gn0 | exact gnI)) | (refine w9c ?_ ?_ <;> intro _ <;> try exact w9o) | (refine w9d ?_ ?_ <;> intro _ <;> try exact w9s) | (refine w9q ?_; intro bnil hbnil)))
  exact .mk rfl rfl rfl
end Go.Proofs.YtkkcnppgcnmikaaGreatDoor
