/- What holds of every world that a call begins in: the library's tables, where they lie. -/
import Derived.Test.YtkkcnppgcnmikaaGreatDoorProg
import Derived.WalkKit
import Derived.Lib.LaidTab
import Derived.Lib.ItoaNum
import Derived.KernelRfl
import Derived.WalkSpells
import Derived.IntWalk
import Derived.Deep.Quiet
namespace FM
open Go Go.Proofs
def GlobB (g : Nat) : Prop := g = 4 ∨ g = 5 ∨ g = 2
structure GlobP (w : World) : Prop where
  pow : Lib.TabIs Tryz.prog w "internal/strconv.uint64pow10" .u64 Lib.pow10Tab
  mx : ∃ m, w.cell? ⟨5, 0, none⟩ = some (.int .i64 m)
  syn : ∃ tp p, w.cell? ⟨2, 0, none⟩ = some (.iface tp p)
theorem gpow : Tryz.prog.globalNamed "internal/strconv.uint64pow10" = some 4 := by kernel_rfl
theorem var_keep {w w' : World} {n : String} {g : Nat} (hg : Tryz.prog.globalNamed n = some g) (h : w'.heap[g]? = w.heap[g]?) : w'.var? Tryz.prog n = w.var? Tryz.prog n := by
  unfold World.var?; rw [hg]; simp only [Option.bind_some, h]
theorem GlobP.keep {w w' : World} (h : ∀ g, GlobB g → w'.heap[g]? = w.heap[g]?) (hw : GlobP w) : GlobP w' :=
  ⟨by have := hw.pow; unfold Lib.TabIs at *; rw [var_keep gpow (h 4 (.inl rfl))]; exact this,
   by obtain ⟨m, hm⟩ := hw.mx; exact ⟨m, by rw [World.cell?_of_block (w := w) (h 5 (.inr (.inl rfl)))]; exact hm⟩,
   by obtain ⟨m, p, hm⟩ := hw.syn; exact ⟨m, p, by rw [World.cell?_of_block (w := w) (h 2 (.inr (.inr rfl)))]; exact hm⟩⟩
end FM

/- An abstract machine over the kit's rules, part 1: abstract values, how they read in a world, frames. No program in sight. -/
namespace FM
open Go Go.RowKit

/-- What a block is to the running call: 'sh': read alone; 'fo': another's, untouched; 'my p': owned, at the place p. -/
inductive Lab where
  | sh | fo | my (p : List Nat)
/-- What the program's own tables hold, where they lie, read alone. -/
structure Glob (L : Nat → Lab) (w : World) : Prop where
  ok : GlobP w
  sh : ∀ g, GlobB g → g < w.heap.size ∧ L g = .sh
theorem Glob.move {L L' : Nat → Lab} {w w' : World} (h : Glob L w) (hs : w.heap.size ≤ w'.heap.size) (hk : ∀ b, b < w.heap.size → L b = .sh → L' b = .sh ∧ w'.heap[b]? = w.heap[b]?) : Glob L' w' :=
  ⟨GlobP.keep (fun g hg => (hk g (h.sh g hg).1 (h.sh g hg).2).2) h.ok, fun g hg => ⟨Nat.lt_of_lt_of_le (h.sh g hg).1 hs, (hk g (h.sh g hg).1 (h.sh g hg).2).1⟩⟩
theorem Glob.all {L : Nat → Lab} {w : World} (h : Glob L w) : Glob (fun _ => .sh) w := h.move (Nat.le_refl _) fun _ _ _ => ⟨rfl, rfl⟩

/-- What a function value does, said at a world. -/
structure Beh where
  holds : World → (Nat → Prop) → Value → Prop

inductive AV where
  | int (n : Int)
  | bool (b : Bool)
  | str (s : List UInt8)
  | val (v : Value)
  | agg (cs : List AV)
  | tup (vs : List AV)
  | nil
  | sl (own : Bool) (c : Nat) (xs : List AV)
  | pt (own : Bool) (cs : List AV)
  | fn (S : Beh)
  | mp (own : Bool) (g : Int → Int)
  | dead

def AV.cells : AV → List AV
  | .agg cs => cs
  | x => [x]
def flat (xs : List AV) : List AV := xs.flatMap AV.cells

def ch (π : Option (List Nat)) (o : Nat) : Option (List Nat) := π.map (· ++ [o])

/-- A block is a map from ints to ints; what is not in it counts as 0. -/
def MapB (o : Option Obj) (g : Int → Int) : Prop := ∃ es clock, o = some (.map es clock) ∧ (∀ e ∈ es.toList, ∃ k, e.key = .int .i64 k ∧ e.val = .int .i64 (g k)) ∧ (es.toList.map (·.key)).Nodup ∧ ∀ k, (∀ e ∈ es.toList, e.key ≠ .int .i64 k) → g k = 0
inductive Rep (L : Nat → Lab) (w : World) : Option (List Nat) → AV → Value → Prop
  | int {π n} : Rep L w π (.int n) (.int .i64 n)
  | bool {π b} : Rep L w π (.bool b) (.bool b)
  | str {π s} : Rep L w π (.str s) (.string ⟨s.toArray⟩)
  | val {π v} : Rep L w π (.val v) v
  | agg {π} {cs : List AV} {vs : List Value} (hl : vs.length = cs.length) (h : ∀ (i : Nat) (x : AV) (v : Value), cs[i]? = some x → vs[i]? = some v → Rep L w none x v) : Rep L w π (.agg cs) (.agg vs.toArray)
  | tup {π} {cs : List AV} {vs : List Value} (hl : vs.length = cs.length) (h : ∀ (i : Nat) (x : AV) (v : Value), cs[i]? = some x → vs[i]? = some v → Rep L w (ch π i) x v) : Rep L w π (.tup cs) (.tuple vs.toArray)
  | nil {π} : Rep L w π .nil (.slice none 0 0)
  | dead {π} {v : Value} : Rep L w π .dead v
  | slE {π} {own : Bool} {c : Nat} {a : Option Addr} {cap : Nat} (h : own = true → cap = 0) : Rep L w π (.sl own c []) (.slice a 0 cap)
  | slS {π} {c : Nat} {xs : List AV} {b off cap : Nat} (u : Nat → Value) (hcap : xs.length ≤ cap) (hL : L b = .sh) (hb : b < w.heap.size) (hc : ∀ x ∈ xs, x.cells.length = c)
      (hcell : ∀ o : Nat, o < xs.length * c → w.cell? ⟨b, off + o, none⟩ = some (u o)) (hr : ∀ (o : Nat) (y : AV), (flat xs)[o]? = some y → Rep L w none y (u o)) :
      Rep L w π (.sl false c xs) (.slice (some ⟨b, off, none⟩) xs.length cap)
  | slO {p : List Nat} {c : Nat} {xs : List AV} {b cap : Nat} {arr : Array Value} {e : TypeId} (u : Nat → Value) (hL : L b = .my p) (hb : w.heap[b]? = some (.cells arr e (0, 0))) (hcap : xs.length ≤ cap) (hsz : arr.size = cap * c)
      (hc : ∀ x ∈ xs, x.cells.length = c) (hcell : ∀ o : Nat, o < xs.length * c → arr[o]? = some (u o)) (hr : ∀ (o : Nat) (y : AV), (flat xs)[o]? = some y → Rep L w (some (p ++ [o])) y (u o)) :
      Rep L w (some p) (.sl true c xs) (.slice (some ⟨b, 0, none⟩) xs.length cap)
  | ptS {π} {cs : List AV} {b off : Nat} (u : Nat → Value) (hL : L b = .sh) (hb : b < w.heap.size)
      (hcell : ∀ o : Nat, o < cs.length → w.cell? ⟨b, off + o, none⟩ = some (u o)) (hr : ∀ (o : Nat) (y : AV), cs[o]? = some y → Rep L w none y (u o)) :
      Rep L w π (.pt false cs) (.pointer (some ⟨b, off, none⟩))
  | ptO {p : List Nat} {cs : List AV} {b : Nat} {arr : Array Value} {e : TypeId} (u : Nat → Value) (hL : L b = .my p) (hb : w.heap[b]? = some (.cells arr e (0, 0))) (hsz : arr.size = cs.length)
      (hcell : ∀ o : Nat, o < cs.length → arr[o]? = some (u o)) (hr : ∀ (o : Nat) (y : AV), cs[o]? = some y → Rep L w (some (p ++ [o])) y (u o)) :
      Rep L w (some p) (.pt true cs) (.pointer (some ⟨b, 0, none⟩))
  | fn {π} {S : Beh} {v : Value} {wE : World} {B : Nat → Prop} (h : S.holds wE B v) (hs : wE.heap.size ≤ w.heap.size) (ho : w.os = wE.os) (ht : w.tape = wE.tape) (hu : w.output = wE.output)
      (hb : ∀ b, b < wE.heap.size → B b → L b = .sh ∧ w.heap[b]? = wE.heap[b]?) : Rep L w π (.fn S) v
  | mpS {π} {g : Int → Int} {b : Nat} (hL : L b = .sh) (hb : b < w.heap.size) (hm : MapB w.heap[b]? g) : Rep L w π (.mp false g) (.map (some b))
  | mpO {p : List Nat} {g : Int → Int} {b : Nat} (hL : L b = .my p) (hm : MapB w.heap[b]? g) : Rep L w (some p) (.mp true g) (.map (some b))

theorem flat_length {c : Nat} : ∀ {xs : List AV}, (∀ x ∈ xs, x.cells.length = c) → (flat xs).length = xs.length * c
  | [], _ => by simp [flat]
  | x :: xs, h => by
    have ih := flat_length (xs := xs) fun y hy => h y (List.mem_cons_of_mem _ hy)
    simp only [flat, List.flatMap_cons, List.length_append] at ih ⊢
    rw [h x (List.mem_cons_self ..), ih, List.length_cons, Nat.add_mul]; omega

theorem flat_append (xs ys : List AV) : flat (xs ++ ys) = flat xs ++ flat ys := by simp [flat]

theorem flat_get {c : Nat} : ∀ {xs : List AV}, (∀ x ∈ xs, x.cells.length = c) → ∀ {i j : Nat} {x y : AV}, xs[i]? = some x → x.cells[j]? = some y → (flat xs)[i * c + j]? = some y
  | [], _, i, j, x, y, hx, _ => by simp at hx
  | z :: xs, h, 0, j, x, y, hx, hy => by
    simp only [List.getElem?_cons_zero, Option.some.injEq] at hx
    subst hx
    have hj : j < z.cells.length := (List.getElem?_eq_some_iff.1 hy).1
    simp only [flat, List.flatMap_cons, Nat.zero_mul, Nat.zero_add]
    rw [List.getElem?_append_left hj]; exact hy
  | z :: xs, h, i + 1, j, x, y, hx, hy => by
    simp only [List.getElem?_cons_succ] at hx
    have ih := flat_get (xs := xs) (fun y hy => h y (List.mem_cons_of_mem _ hy)) hx hy
    have hz := h z (List.mem_cons_self ..)
    simp only [flat, List.flatMap_cons] at ih ⊢
    rw [List.getElem?_append_right (by rw [hz, Nat.add_mul]; omega), hz, show (i + 1) * c + j - c = i * c + j by rw [Nat.add_mul]; omega]
    exact ih

/-- Every cell of a row is a cell of one of its elements. -/
theorem flat_split {c : Nat} : ∀ {xs : List AV}, (∀ x ∈ xs, x.cells.length = c) → ∀ {o : Nat} {y : AV}, (flat xs)[o]? = some y → ∃ i j x, xs[i]? = some x ∧ x.cells[j]? = some y ∧ o = i * c + j ∧ j < c
  | [], _, o, y, h => by simp [flat] at h
  | z :: xs, hc, o, y, h => by
    have hz := hc z (List.mem_cons_self ..)
    simp only [flat, List.flatMap_cons] at h
    by_cases ho : o < z.cells.length
    · rw [List.getElem?_append_left ho] at h
      exact ⟨0, o, z, rfl, h, by omega, by omega⟩
    · rw [List.getElem?_append_right (by omega)] at h
      obtain ⟨i, j, x, h1, h2, h3, h4⟩ := flat_split (xs := xs) (fun y hy => hc y (List.mem_cons_of_mem _ hy)) h
      exact ⟨i + 1, j, x, h1, h2, by rw [Nat.add_mul]; omega, h4⟩

theorem cell_of_heap {w w' : World} {b o : Nat} (h : w'.heap[b]? = w.heap[b]?) : w'.cell? ⟨b, o, none⟩ = w.cell? ⟨b, o, none⟩ := World.cell?_of_block (w := w) h

/-- The frame law: a reading is carried to another world and other labels. -/
theorem Rep.frame {L L' : Nat → Lab} {w w' : World} (hs : w.heap.size ≤ w'.heap.size) (ho : w'.os = w.os) (ht : w'.tape = w.tape) (hu : w'.output = w.output)
    (hS : ∀ b, L b = .sh → b < w.heap.size → L' b = .sh ∧ w'.heap[b]? = w.heap[b]?) {π : Option (List Nat)} {x : AV} {v : Value} (h : Rep L w π x v) :
    ∀ π' : Option (List Nat), (∀ p, π = some p → ∃ p', π' = some p' ∧ ∀ b q, L b = .my (p ++ q) → L' b = .my (p' ++ q) ∧ w'.heap[b]? = w.heap[b]?) → Rep L' w' π' x v := by
  induction h with
  | int => exact fun _ _ => .int
  | bool => exact fun _ _ => .bool
  | str => exact fun _ _ => .str
  | val => exact fun _ _ => .val
  | agg hl _ ih => exact fun π' _ => .agg hl fun i x v hx hv => ih i x v hx hv none (fun p hp => by cases hp)
  | @tup π cs vs hl _ ih =>
    refine fun π' hO => .tup hl fun i x v hx hv => ih i x v hx hv _ fun p hp => ?_
    cases π with
    | none => simp [ch] at hp
    | some p0 =>
      simp only [ch, Option.map_some, Option.some.injEq] at hp
      subst hp
      obtain ⟨p', rfl, h⟩ := hO p0 rfl
      exact ⟨p' ++ [i], rfl, fun b q hb => by have := h b ([i] ++ q) (by rw [← List.append_assoc]; exact hb); rw [List.append_assoc]; exact this⟩
  | nil => exact fun _ _ => .nil
  | dead => exact fun _ _ => .dead
  | slE h => exact fun _ _ => .slE h
  | slS u hcap hL hb hc hcell hr ih =>
    intro π' _
    obtain ⟨h1, h2⟩ := hS _ hL hb
    exact .slS u hcap h1 (by omega) hc (fun o ho => by rw [cell_of_heap h2]; exact hcell o ho) (fun o y hy => ih o y hy none (fun p hp => by cases hp))
  | @slO p c xs b cap arr e u hL hb hcap hsz hc hcell hr ih =>
    intro π' hO
    obtain ⟨p', rfl, h⟩ := hO p rfl
    obtain ⟨h1, h2⟩ := h b [] (by simpa using hL)
    refine .slO u (by simpa using h1) (h2.trans hb) hcap hsz hc hcell fun o y hy => ih o y hy _ fun q hq => ?_
    cases hq
    exact ⟨p' ++ [o], rfl, fun b q hb => by have := h b ([o] ++ q) (by rw [← List.append_assoc]; exact hb); rw [List.append_assoc]; exact this⟩
  | ptS u hL hb hcell hr ih =>
    intro π' _
    obtain ⟨h1, h2⟩ := hS _ hL hb
    exact .ptS u h1 (by omega) (fun o ho => by rw [cell_of_heap h2]; exact hcell o ho) (fun o y hy => ih o y hy none (fun p hp => by cases hp))
  | @ptO p cs b arr e u hL hb hsz hcell hr ih =>
    intro π' hO
    obtain ⟨p', rfl, h⟩ := hO p rfl
    obtain ⟨h1, h2⟩ := h b [] (by simpa using hL)
    refine .ptO u (by simpa using h1) (h2.trans hb) hsz hcell fun o y hy => ih o y hy _ fun q hq => ?_
    cases hq
    exact ⟨p' ++ [o], rfl, fun b q hb => by have := h b ([o] ++ q) (by rw [← List.append_assoc]; exact hb); rw [List.append_assoc]; exact this⟩
  | fn h hs' ho' ht' hu' hb' =>
    intro π' _
    refine .fn h (Nat.le_trans hs' hs) (ho.trans ho') (ht.trans ht') (hu.trans hu') fun b hb hB => ?_
    obtain ⟨h1, h2⟩ := hb' b hb hB
    obtain ⟨h3, h4⟩ := hS b h1 (by omega)
    exact ⟨h3, h4.trans h2⟩
  | mpS hL hb hm =>
    intro π' _
    obtain ⟨h1, h2⟩ := hS _ hL hb
    exact .mpS h1 (by omega) (by rw [h2]; exact hm)
  | @mpO p g b hL hm =>
    intro π' hO
    obtain ⟨p', rfl, h⟩ := hO p rfl
    obtain ⟨h1, h2⟩ := h b [] (by simpa using hL)
    exact .mpO (by simpa using h1) (by rw [h2]; exact hm)

mutual
/-- Owned memory read as shared. -/
def AV.sh : AV → AV
  | .int n => .int n
  | .bool b => .bool b
  | .str s => .str s
  | .val v => .val v
  | .agg cs => .agg (AV.shL cs)
  | .tup vs => .tup (AV.shL vs)
  | .nil => .nil
  | .sl _ c xs => .sl false c (AV.shL xs)
  | .pt _ cs => .pt false (AV.shL cs)
  | .fn S => .fn S
  | .mp _ g => .mp false g
  | .dead => .dead
def AV.shL : List AV → List AV
  | [] => []
  | x :: xs => x.sh :: AV.shL xs
end

theorem shL_eq : ∀ xs : List AV, AV.shL xs = xs.map AV.sh
  | [] => rfl
  | x :: xs => by simp only [AV.shL, List.map_cons, shL_eq xs]
theorem shL_map {α : Type} (f : α → AV) (l : List α) (g : α → AV) (h : ∀ x, (f x).sh = g x) : AV.shL (l.map f) = l.map g := by
  rw [shL_eq, List.map_map]; exact List.map_congr_left fun x _ => h x
theorem sh_cells (x : AV) : x.sh.cells = x.cells.map AV.sh := by
  cases x <;> simp [AV.sh, AV.cells, shL_eq]
theorem flat_map_sh (xs : List AV) : flat (AV.shL xs) = (flat xs).map AV.sh := by
  rw [shL_eq]
  induction xs with
  | nil => rfl
  | cons x xs ih => simp only [flat, List.map_cons, List.flatMap_cons, List.map_append, sh_cells] at ih ⊢; rw [ih]

/-- What is owned may be read as shared, under labels that let it. -/
theorem Rep.toSh {L L' : Nat → Lab} {w : World} (hS : ∀ b, b < w.heap.size → L b = .sh → L' b = .sh) {π : Option (List Nat)} {x : AV} {v : Value} (h : Rep L w π x v)
    (hO : ∀ p, π = some p → ∀ b q, L b = .my (p ++ q) → L' b = .sh) : Rep L' w none x.sh v := by
  induction h with
  | int => exact .int
  | bool => exact .bool
  | str => exact .str
  | val => exact .val
  | @agg π cs vs hl _ ih =>
    refine .agg (by simp [shL_eq, hl]) fun i x v hx hv => ?_
    simp only [shL_eq, List.getElem?_map, Option.map_eq_some_iff] at hx
    obtain ⟨y, hy, rfl⟩ := hx
    exact ih i y v hy hv (fun p hp => by cases hp)
  | @tup π cs vs hl _ ih =>
    refine .tup (by simp [shL_eq, hl]) fun i x v hx hv => ?_
    simp only [shL_eq, List.getElem?_map, Option.map_eq_some_iff] at hx
    obtain ⟨y, hy, rfl⟩ := hx
    refine ih i y v hy hv fun p hp b q hb => ?_
    cases π with
    | none => simp [ch] at hp
    | some p0 => simp only [ch, Option.map_some, Option.some.injEq] at hp; subst hp; exact hO p0 rfl b ([i] ++ q) (by rw [← List.append_assoc]; exact hb)
  | nil => exact .nil
  | dead => exact .dead
  | slE h => exact .slE (by simp)
  | @slS π c xs b off cap u hcap hL hb hc hcell hr ih =>
    have hlen : (AV.shL xs).length = xs.length := by simp [shL_eq]
    rw [← hlen]
    refine .slS u (by rw [hlen]; exact hcap) (hS _ hb hL) hb (fun x hx => ?_) (by rw [hlen]; exact hcell) (fun o y hy => ?_)
    · rw [shL_eq] at hx; obtain ⟨y, hy, rfl⟩ := List.mem_map.1 hx; rw [sh_cells, List.length_map]; exact hc y hy
    · rw [flat_map_sh, List.getElem?_map, Option.map_eq_some_iff] at hy
      obtain ⟨z, hz, rfl⟩ := hy
      exact ih o z hz (fun p hp => by cases hp)
  | @slO p c xs b cap arr e u hL hb hcap hsz hc hcell hr ih =>
    have hb' : b < w.heap.size := (Array.getElem?_eq_some_iff.1 hb).1
    have hlen : (AV.shL xs).length = xs.length := by simp [shL_eq]
    rw [← hlen]
    refine .slS (off := 0) u (by rw [hlen]; exact hcap) (hO p rfl b [] (by simpa using hL)) hb' (fun x hx => ?_) (fun o ho => ?_) (fun o y hy => ?_)
    · rw [shL_eq] at hx; obtain ⟨y, hy, rfl⟩ := List.mem_map.1 hx; rw [sh_cells, List.length_map]; exact hc y hy
    · rw [Nat.zero_add, cell_of_row w b o arr e (0, 0) hb]; exact hcell o (by rw [← hlen]; exact ho)
    · rw [flat_map_sh, List.getElem?_map, Option.map_eq_some_iff] at hy
      obtain ⟨z, hz, rfl⟩ := hy
      exact ih o z hz (fun q hq c' q' hc' => by cases hq; exact hO p rfl c' ([o] ++ q') (by rw [← List.append_assoc]; exact hc'))
  | @ptS π cs b off u hL hb hcell hr ih =>
    refine .ptS u (hS _ hb hL) hb (by simpa [shL_eq] using hcell) fun o y hy => ?_
    simp only [shL_eq, List.getElem?_map, Option.map_eq_some_iff] at hy
    obtain ⟨z, hz, rfl⟩ := hy
    exact ih o z hz (fun p hp => by cases hp)
  | @ptO p cs b arr e u hL hb hsz hcell hr ih =>
    have hb' : b < w.heap.size := (Array.getElem?_eq_some_iff.1 hb).1
    refine .ptS u (hO p rfl b [] (by simpa using hL)) hb' (fun o ho => by rw [Nat.zero_add, cell_of_row w b o arr e (0, 0) hb]; exact hcell o (by simpa [shL_eq] using ho)) fun o y hy => ?_
    simp only [shL_eq, List.getElem?_map, Option.map_eq_some_iff] at hy
    obtain ⟨z, hz, rfl⟩ := hy
    exact ih o z hz (fun q hq c' q' hc' => by cases hq; exact hO p rfl c' ([o] ++ q') (by rw [← List.append_assoc]; exact hc'))
  | fn h hs' ho' ht' hu' hb' =>
    exact .fn h hs' ho' ht' hu' fun b hb hB => by
      obtain ⟨h1, h2⟩ := hb' b hb hB
      exact ⟨hS b (by omega) h1, h2⟩
  | mpS hL hb hm => exact .mpS (hS _ hb hL) hb hm
  | @mpO p g b hL hm =>
    obtain ⟨es, clock, he, _⟩ := id hm
    exact .mpS (hO p rfl b [] (by simpa using hL)) (Array.getElem?_eq_some_iff.1 he).1 hm

/-- A reading that names nothing owned reads the same at whatever place. -/
theorem Rep.any {L : Nat → Lab} {w : World} {x : AV} {v : Value} (h : Rep L w none x v) (π : Option (List Nat)) : Rep L w π x v :=
  h.frame (Nat.le_refl _) rfl rfl rfl (fun _ h _ => ⟨h, rfl⟩) π (fun p hp => by cases hp)
end FM

/- An abstract machine over the kit's rules, part 2: what a frame's slots hold; the operations that only compute or read. -/
namespace FM
open Go Go.RowKit

/-! ### types -/
inductive TK where
  | plain | slice (e : Nat) | struct (fs : List (Nat × Nat)) | arr (n e : Nat) | str | int (k : IntKind)
structure TI where
  k : TK
  size : Nat
  bytes : Nat
  zero : List AV

def AV.toV : AV → Value
  | .int n => .int .i64 n
  | .bool b => .bool b
  | .str s => .string ⟨s.toArray⟩
  | .val v => v
  | .nil => .slice none 0 0
  | _ => undef
def AV.flatPlain : AV → Bool
  | .int _ | .bool _ | .str _ | .val _ | .nil => true
  | _ => false

def TK.isAgg : TK → Bool
  | .struct _ | .arr _ _ => true
  | _ => false
def TK.ofDesc : TK → TypeDesc → Prop
  | .plain, d => (match d with | .struct _ | .array _ _ => False | _ => True)
  | .slice e, d => d = .slice e
  | .struct fs, d => ∃ fields : Array Field, d = .struct fields ∧ fields.toList.map (fun f => (f.offset, f.type)) = fs
  | .arr n e, d => d = .array n e
  | .str, d => d = .string
  | .int k, d => d = .int k

structure TOk (P : Program) (t : Nat) (i : TI) : Prop where
  desc : ∃ d, P.underlying t = some d ∧ i.k.ofDesc d
  info : ∃ f z, P.info? t = some f ∧ f.size = i.size ∧ f.bytes = i.bytes ∧ f.zero = some z ∧ z.cells.toList = i.zero.map AV.toV ∧ i.zero.all AV.flatPlain = true ∧ z.cells.size = i.size

structure Sys where
  P : Program
  T : Nat → Option TI
  ok : ∀ t i, T t = some i → TOk P t i
  mixed : P.follows .mixedOrders = true
  /-- the slots of M keep the values v0 (a call's own arguments) -/
  M : Nat → Bool
  v0 : Nat → Value
  /-- what the frame has deferred -/
  D : List Deferred := []
/-- A slot that may be written. -/
structure DOk (S : Sys) (N d : Nat) : Prop where
  lt : d < N
  ge : S.M d = false
theorem DOk.ne {S : Sys} {N d i : Nat} (h : DOk S N d) (hi : S.M i = true) : d ≠ i := fun e => by subst e; rw [h.ge] at hi; cases hi

/-! ### frames -/
inductive TV where
  | none
  | av (x : AV)
  | ref (s : Nat)
  | rref (s i : Nat) (y : AV)
  | ptr (s i c : Nat) (y : AV)
  | fpt (s o : Nat) (y : AV)
  | rptr (s i j : Nat) (y : AV)
  | dptr (x : AV)
  | bdp (s : Nat) (x : AV)
  | bor (s : Nat) (x : AV)
  | clo (f : Nat) (caps : List Nat)

inductive St where
  | nil
  | put (n : Nat) (tv : TV) (σ : St)
  | upd (deep : Bool) (n : Nat) (tv : TV) (σ : St)

def TV.dep (n : Nat) : TV → Bool
  | .ref s | .rref s _ _ | .ptr s _ _ _ | .fpt s _ _ | .rptr s _ _ _ | .bor s _ | .bdp s _ => Nat.beq s n
  | .clo _ caps => caps.any fun s => Nat.beq s n
  | _ => false
/-- What is left of a slot's word when what slot n owns is turned: a cell of its own row, or ('deep') a cell of one of its rows. -/
def TV.stale (deep : Bool) (n : Nat) : TV → TV
  | .bor s x => bif Nat.beq s n then .none else .bor s x
  | .bdp s x => bif Nat.beq s n then .none else .bdp s x
  | .rref s i y => bif Nat.beq s n then (bif deep then .rref s i .dead else .none) else .rref s i y
  | .rptr s i j y => bif Nat.beq s n then (bif deep then .rptr s i j .dead else .none) else .rptr s i j y
  | .ptr s i c y => bif Nat.beq s n then .ptr s i c .dead else .ptr s i c y
  | .fpt s o y => bif Nat.beq s n then .fpt s o .dead else .fpt s o y
  | tv => tv

/-- What is left of a slot's word when slot n is overwritten. (One look at the word: the frame is read by reduction.) -/
def TV.kill (n : Nat) : TV → TV
  | .none => .none
  | .av x => .av x
  | .ref s => bif Nat.beq s n then .none else .ref s
  | .rref s i y => bif Nat.beq s n then .none else .rref s i y
  | .ptr s i c y => bif Nat.beq s n then .none else .ptr s i c y
  | .fpt s o y => bif Nat.beq s n then .none else .fpt s o y
  | .rptr s i j y => bif Nat.beq s n then .none else .rptr s i j y
  | .dptr x => .dptr x
  | .bdp s x => bif Nat.beq s n then .none else .bdp s x
  | .bor s x => bif Nat.beq s n then .none else .bor s x
  | .clo f caps => bif caps.any fun s => Nat.beq s n then .none else .clo f caps
theorem kill_eq (n : Nat) (tv : TV) : tv.kill n = bif tv.dep n then .none else tv := by cases tv <;> rfl

def get : St → Nat → TV
  | .nil, _ => .none
  | .put n tv σ, m => bif Nat.beq n m then tv else (get σ m).kill n
  | .upd d n tv σ, m => bif Nat.beq n m then tv else (get σ m).stale d n

def AV.isOwn : AV → Bool
  | .sl true _ _ | .pt true _ | .tup _ | .mp true _ => true
  | _ => false
def TV.plain : TV → Bool
  | .none | .ref _ => false
  | .av x => !x.isOwn
  | _ => true

def AV.ofV : Value → AV
  | .int .i64 n => .int n
  | .bool b => .bool b
  | .string s => .str s.data.toList
  | .slice none 0 0 => .nil
  | v => .val v

def ov (σ : St) : Operand → TV
  | .tmp t => get σ t
  | .const v => .av (AV.ofV v)
  | .func f => .av (.val (.func (.func f) #[] #[]))
  | .global _ => .none

def Lab.without (s : Nat) : Lab → Lab
  | .my (t :: q) => bif Nat.beq t s then .sh else .my (t :: q)
  | l => l

def Hold (L : Nat → Lab) (w : World) (tmps : Array Value) (n : Nat) : TV → Value → Prop
  | .none, _ => True
  | .av x, v => Rep L w (some [n]) x v
  | .ref s, v => v = tmps.getD s undef
  | .rref s i y, v => ∃ b, L b = .my [s] ∧ w.cell? ⟨b, i, none⟩ = some v ∧ (y ≠ .dead → Rep L w (some [s, i]) y v)
  | .ptr s i c y, v => ∃ b, L b = .my [s] ∧ v = .pointer (some ⟨b, i * c, none⟩) ∧ (y ≠ .dead → ∀ j z, y.cells[j]? = some z → ∃ u, w.cell? ⟨b, i * c + j, none⟩ = some u ∧ Rep L w (some [s, i * c + j]) z u)
  | .fpt s o y, v => ∃ b, L b = .my [s] ∧ v = .pointer (some ⟨b, o, none⟩) ∧ (y ≠ .dead → ∀ j z, y.cells[j]? = some z → ∃ u, w.cell? ⟨b, o + j, none⟩ = some u ∧ Rep L w (some [s, o + j]) z u)
  | .rptr s i j y, v => ∃ b, L b = .my [s, i] ∧ v = .pointer (some ⟨b, j, none⟩) ∧ (y ≠ .dead → ∃ u, w.cell? ⟨b, j, none⟩ = some u ∧ Rep L w (some [s, i, j]) y u)
  | .dptr x, v => ∃ b off, v = .pointer (some ⟨b, off, none⟩) ∧ L b = .sh ∧ b < w.heap.size ∧ ∀ j y, x.cells[j]? = some y → ∃ u, w.cell? ⟨b, off + j, none⟩ = some u ∧ Rep L w none y u
  | .bdp s x, v => ∃ b off, v = .pointer (some ⟨b, off, none⟩) ∧ (L b).without s = .sh ∧ b < w.heap.size ∧ ∀ j y, x.cells[j]? = some y → ∃ u, w.cell? ⟨b, off + j, none⟩ = some u ∧ Rep (fun b => (L b).without s) w none y u
  | .bor s x, v => Rep (fun b => (L b).without s) w none x v
  | .clo f caps, v => v = .func (.func f) #[] (caps.map fun s => tmps.getD s undef).toArray

/-- Memory that the call may not turn is as it was. -/
structure Keep (L0 : Nat → Lab) (w0 w : World) : Prop where
  os : w.os = w0.os
  tape : w.tape = w0.tape
  output : w.output = w0.output
  size : w0.heap.size ≤ w.heap.size
  block : ∀ b, b < w0.heap.size → (∀ p, L0 b ≠ .my p) → w.heap[b]? = w0.heap[b]?

structure LOk (L0 : Nat → Lab) (w0 : World) (L : Nat → Lab) (w : World) : Prop where
  lt : ∀ b p, L b = .my p → b < w.heap.size
  inj : ∀ b b' p, L b = .my p → L b' = .my p → b = b'
  head : ∀ b p, L b = .my p → p ≠ []
  old : ∀ b p, b < w0.heap.size → L b = .my p → ∃ q, L0 b = .my q
  fo : ∀ b, b < w0.heap.size → (L b = .fo ↔ L0 b = .fo)
  new : ∀ b, w0.heap.size ≤ b → L b ≠ .fo

structure RelL (S : Sys) (w0 : World) (L0 : Nat → Lab) (N : Nat) (σ : St) (a : Act) (w : World) (L : Nat → Lab) : Prop where
  defers : a.defers = S.D
  size : a.tmps.size = N
  keep : Keep L0 w0 w
  lok : LOk L0 w0 L w
  hold : ∀ n, n < N → Hold L w a.tmps n (get σ n) (a.tmps.getD n undef)
  out : ∀ n, N ≤ n → get σ n = .none
  fix : ∀ i, S.M i = true → a.tmps.getD i undef = S.v0 i
  glob : Glob L0 w0

theorem RelL.globNow {S : Sys} {w0 : World} {L0 : Nat → Lab} {N : Nat} {σ : St} {a : Act} {w : World} {L : Nat → Lab} (h : RelL S w0 L0 N σ a w L) : Glob L w :=
  h.glob.move h.keep.size fun b hb hsh => ⟨(by
    cases hL : L b with
    | sh => rfl
    | fo => have := (h.lok.fo b hb).1 hL; rw [hsh] at this; cases this
    | my p => obtain ⟨q, hq⟩ := h.lok.old b p hb hL; rw [hsh] at hq; cases hq), h.keep.block b hb (fun p hp => by rw [hsh] at hp; cases hp)⟩
def Rel (S : Sys) (w0 : World) (L0 : Nat → Lab) (N : Nat) (σ : St) (a : Act) (w : World) : Prop := ∃ L, RelL S w0 L0 N σ a w L

/-- Later worlds in which nothing that was there has turned. -/
def Ext (w w' : World) : Prop := Below w.heap.size w w'
theorem Ext.refl (w : World) : Ext w w := Below.refl _ _
theorem Ext.trans {a b c : World} (h : Ext a b) (k : Ext b c) : Ext a c := Below.trans h (Below.mono k h.size)

theorem Keep.ext {L0 : Nat → Lab} {w0 w w' : World} (h : Keep L0 w0 w) (e : Ext w w') : Keep L0 w0 w' :=
  ⟨e.os.trans h.os, e.tape.trans h.tape, e.output.trans h.output, Nat.le_trans h.size e.size, fun b hb hn => (e.block b (Nat.lt_of_lt_of_le hb h.size)).trans (h.block b hb hn)⟩

theorem Rep.ext {L : Nat → Lab} {w w' : World} (hl : ∀ b p, L b = .my p → b < w.heap.size) (e : Ext w w') {π : Option (List Nat)} {x : AV} {v : Value} (h : Rep L w π x v) : Rep L w' π x v :=
  h.frame e.size e.os e.tape e.output (fun b h1 h2 => ⟨h1, e.block b h2⟩) π fun p hp => ⟨p, hp, fun b _ hb => ⟨hb, e.block b (hl b _ hb)⟩⟩

theorem without_my {s : Nat} {l : Lab} {p : List Nat} (h : l.without s = .my p) : l = .my p := by
  cases l with
  | my q =>
    cases q with
    | nil => exact h
    | cons t q => simp only [Lab.without] at h; cases hb : Nat.beq t s <;> simp_all
  | _ => exact h
theorem without_sh {s : Nat} {l : Lab} (h : l = .sh) : l.without s = .sh := by subst h; rfl

theorem Hold.ext {L : Nat → Lab} {w w' : World} (hl : ∀ b p, L b = .my p → b < w.heap.size) (e : Ext w w') {tmps : Array Value} {n : Nat} : ∀ {tv : TV} {v : Value}, Hold L w tmps n tv v → Hold L w' tmps n tv v
  | .none, _, _ => trivial
  | .av _, _, h => Rep.ext hl e h
  | .ref _, _, h => h
  | .rref _ _ _, _, ⟨b, h1, h2, h3⟩ => ⟨b, h1, by rw [cell_of_heap (e.block b (hl b _ h1))]; exact h2, fun hy => Rep.ext hl e (h3 hy)⟩
  | .ptr _ _ _ _, _, ⟨b, h1, h2, h3⟩ => ⟨b, h1, h2, fun hy j z hz => by
      obtain ⟨u, hu, hr⟩ := h3 hy j z hz
      exact ⟨u, by rw [cell_of_heap (e.block b (hl b _ h1))]; exact hu, Rep.ext hl e hr⟩⟩
  | .fpt _ _ _, _, ⟨b, h1, h2, h3⟩ => ⟨b, h1, h2, fun hy j z hz => by
      obtain ⟨u, hu, hr⟩ := h3 hy j z hz
      exact ⟨u, by rw [cell_of_heap (e.block b (hl b _ h1))]; exact hu, Rep.ext hl e hr⟩⟩
  | .rptr _ _ _ _, _, ⟨b, h1, h2, h3⟩ => ⟨b, h1, h2, fun hy => by
      obtain ⟨u, hu, hr⟩ := h3 hy
      exact ⟨u, by rw [cell_of_heap (e.block b (hl b _ h1))]; exact hu, Rep.ext hl e hr⟩⟩
  | .dptr _, _, ⟨b, off, h1, h2, h3, h4⟩ => ⟨b, off, h1, h2, Nat.lt_of_lt_of_le h3 e.size, fun j y hy => by
      obtain ⟨u, hu, hr⟩ := h4 j y hy
      exact ⟨u, by rw [cell_of_heap (e.block b h3)]; exact hu, Rep.ext hl e hr⟩⟩
  | .bdp _ _, _, ⟨b, off, h1, h2, h3, h4⟩ => ⟨b, off, h1, h2, Nat.lt_of_lt_of_le h3 e.size, fun j y hy => by
      obtain ⟨u, hu, hr⟩ := h4 j y hy
      exact ⟨u, by rw [cell_of_heap (e.block b h3)]; exact hu, Rep.ext (fun b p hb => hl b p (without_my hb)) e hr⟩⟩
  | .bor _ _, _, h => Rep.ext (fun b p hb => hl b p (without_my hb)) e h
  | .clo _ _, _, h => h

theorem LOk.ext {L0 L : Nat → Lab} {w0 w w' : World} (h : LOk L0 w0 L w) (e : Ext w w') : LOk L0 w0 L w' :=
  ⟨fun b p hb => Nat.lt_of_lt_of_le (h.lt b p hb) e.size, h.inj, h.head, h.old, h.fo, h.new⟩

theorem RelL.ext {S : Sys} {w0 : World} {L0 : Nat → Lab} {N : Nat} {σ : St} {a : Act} {w w' : World} {L : Nat → Lab} (h : RelL S w0 L0 N σ a w L) (e : Ext w w') : RelL S w0 L0 N σ a w' L :=
  ⟨h.defers, h.size, h.keep.ext e, h.lok.ext e, fun n hn => Hold.ext h.lok.lt e (h.hold n hn), h.out, h.fix, h.glob⟩
theorem Rel.ext {S : Sys} {w0 : World} {L0 : Nat → Lab} {N : Nat} {σ : St} {a : Act} {w w' : World} (h : Rel S w0 L0 N σ a w) (e : Ext w w') : Rel S w0 L0 N σ a w' :=
  let ⟨L, h⟩ := h; ⟨L, h.ext e⟩

/-! ### putting a value into a slot -/
/-- Slot d is overwritten: what it owned is owned no more. -/
def clear (d : Nat) (L : Nat → Lab) : Nat → Lab := fun b => (L b).without d

theorem clear_my {d : Nat} {L : Nat → Lab} {b : Nat} {p : List Nat} (h : clear d L b = .my p) : L b = .my p ∧ p.head? ≠ some d := by
  unfold clear at h
  have h1 := without_my h
  refine ⟨h1, fun hp => ?_⟩
  rw [h1] at h
  cases p with
  | nil => cases hp
  | cons t q =>
    simp only [List.head?_cons, Option.some.injEq] at hp
    subst hp
    simp [Lab.without, Nat.beq_refl] at h
theorem clear_keep {d : Nat} {L : Nat → Lab} {b t : Nat} {q : List Nat} (h : L b = .my (t :: q)) (ht : t ≠ d) : clear d L b = .my (t :: q) := by
  unfold clear
  rw [h]
  have : Nat.beq t d = false := by rw [← Bool.not_eq_true]; exact fun e => ht (Nat.eq_of_beq_eq_true e)
  simp [Lab.without, this]
theorem clear_sh {d : Nat} {L : Nat → Lab} {b : Nat} (h : L b = .sh) : clear d L b = .sh := without_sh h
theorem clear_fo {d : Nat} {L : Nat → Lab} {b : Nat} : clear d L b = .fo ↔ L b = .fo := by
  unfold clear
  cases h : L b with
  | my p =>
    cases p with
    | nil => simp [Lab.without]
    | cons t q => simp only [Lab.without]; cases Nat.beq t d <;> simp
  | _ => simp [Lab.without]

theorem LOk.clear {L0 L : Nat → Lab} {w0 w : World} (h : LOk L0 w0 L w) (d : Nat) : LOk L0 w0 (clear d L) w :=
  ⟨fun b p hb => h.lt b p (clear_my hb).1, fun b b' p hb hb' => h.inj b b' p (clear_my hb).1 (clear_my hb').1, fun b p hb => h.head b p (clear_my hb).1,
   fun b p hlt hb => h.old b p hlt (clear_my hb).1, fun b hb => clear_fo.trans (h.fo b hb), fun b hb hf => h.new b hb (clear_fo.1 hf)⟩

/-- A reading at a place of another slot stays when slot d is cleared. -/
theorem Rep.clear {L : Nat → Lab} {w : World} {d : Nat} {π : Option (List Nat)} {x : AV} {v : Value} (h : Rep L w π x v) (hp : ∀ p, π = some p → ∃ t q, p = t :: q ∧ t ≠ d) : Rep (clear d L) w π x v :=
  h.frame (Nat.le_refl _) rfl rfl rfl (fun b h1 _ => ⟨clear_sh h1, rfl⟩) π fun p hp' => ⟨p, hp', fun b q hb => by
    obtain ⟨t, q', rfl, ht⟩ := hp p hp'
    exact ⟨clear_keep (by simpa using hb) ht, rfl⟩⟩

theorem not_beq {a b : Nat} (h : a ≠ b) : Nat.beq a b = false := by rw [← Bool.not_eq_true]; exact fun e => h (Nat.eq_of_beq_eq_true e)
theorem of_not_beq {a b : Nat} (h : Nat.beq a b = false) : a ≠ b := fun e => by subst e; rw [Nat.beq_refl] at h; cases h

theorem getD_set_other {tmps : Array Value} {d m : Nat} {v : Value} (h : d ≠ m) : (tmps.setIfInBounds d v).getD m undef = tmps.getD m undef := by
  simp [Array.getD_eq_getD_getElem?, Array.getElem?_setIfInBounds_ne h]
theorem getD_set_same {tmps : Array Value} {d : Nat} {v : Value} (h : d < tmps.size) : (tmps.setIfInBounds d v).getD d undef = v := by
  simp [Array.getD_eq_getD_getElem?, h]

/-- What a slot holds is carried to other labels, another world, another frame, if all that it hangs on is. -/
theorem Hold.relab {L L' : Nat → Lab} {w w' : World} {tmps tmps' : Array Value} {good : Nat → Prop} (hs : w.heap.size ≤ w'.heap.size) (ho : w'.os = w.os) (ht : w'.tape = w.tape) (hu : w'.output = w.output)
    (hsh : ∀ b, L b = .sh → b < w.heap.size → L' b = .sh ∧ w'.heap[b]? = w.heap[b]?)
    (hk : ∀ b t q, L b = .my (t :: q) → good t → L' b = .my (t :: q) ∧ w'.heap[b]? = w.heap[b]?)
    (htm : ∀ s, good s → tmps'.getD s undef = tmps.getD s undef) {n : Nat} (hn : good n) :
    ∀ {tv : TV} {v : Value}, (∀ s, tv.dep s = true → good s) → Hold L w tmps n tv v → Hold L' w' tmps' n tv v := by
  have rep : ∀ {p : List Nat} {t : Nat} {q : List Nat} {x : AV} {v : Value}, p = t :: q → good t → Rep L w (some p) x v → Rep L' w' (some p) x v := fun {p t q x v} hp hg h =>
    h.frame hs ho ht hu hsh (some p) fun p' hp' => ⟨p', hp', fun b q' hb => by cases hp'; subst hp; exact hk b t (q ++ q') (by simpa using hb) hg⟩
  have repB : ∀ {s : Nat} {x : AV} {v : Value}, good s → Rep (fun b => (L b).without s) w none x v → Rep (fun b => (L' b).without s) w' none x v := fun {s x v} hg h => by
    refine h.frame hs ho ht hu (fun b h1 h2 => ?_) none (fun p hp => by cases hp)
    cases hb : L b with
    | sh => obtain ⟨h3, h4⟩ := hsh b hb h2; exact ⟨without_sh h3, h4⟩
    | fo => rw [hb] at h1; simp [Lab.without] at h1
    | my p =>
      rw [hb] at h1
      cases p with
      | nil => simp [Lab.without] at h1
      | cons t q =>
        simp only [Lab.without] at h1
        cases hts : Nat.beq t s with
        | false => rw [hts] at h1; cases h1
        | true =>
          have := Nat.eq_of_beq_eq_true hts
          subst this
          obtain ⟨h3, h4⟩ := hk b t q hb hg
          exact ⟨by rw [h3]; simp [Lab.without, Nat.beq_refl], h4⟩
  intro tv v hg h
  cases tv with
  | none => trivial
  | av x => exact rep rfl hn h
  | ref s => simp only [Hold] at h ⊢; rw [htm s (hg s (Nat.beq_refl s))]; exact h
  | rref s i y =>
    have gs := hg s (Nat.beq_refl s)
    obtain ⟨b, h1, h2, h3⟩ := h
    obtain ⟨h4, h5⟩ := hk b s [] h1 gs
    exact ⟨b, h4, by rw [cell_of_heap h5]; exact h2, fun hy => rep rfl gs (h3 hy)⟩
  | ptr s i c y =>
    have gs := hg s (Nat.beq_refl s)
    obtain ⟨b, h1, h2, h3⟩ := h
    obtain ⟨h4, h5⟩ := hk b s [] h1 gs
    exact ⟨b, h4, h2, fun hy j z hz => by
      obtain ⟨u, hu, hr⟩ := h3 hy j z hz
      exact ⟨u, by rw [cell_of_heap h5]; exact hu, rep rfl gs hr⟩⟩
  | fpt s o y =>
    have gs := hg s (Nat.beq_refl s)
    obtain ⟨b, h1, h2, h3⟩ := h
    obtain ⟨h4, h5⟩ := hk b s [] h1 gs
    exact ⟨b, h4, h2, fun hy j z hz => by
      obtain ⟨u, hu, hr⟩ := h3 hy j z hz
      exact ⟨u, by rw [cell_of_heap h5]; exact hu, rep rfl gs hr⟩⟩
  | rptr s i j y =>
    have gs := hg s (Nat.beq_refl s)
    obtain ⟨b, h1, h2, h3⟩ := h
    obtain ⟨h4, h5⟩ := hk b s [i] h1 gs
    exact ⟨b, h4, h2, fun hy => by
      obtain ⟨u, hu, hr⟩ := h3 hy
      exact ⟨u, by rw [cell_of_heap h5]; exact hu, rep rfl gs hr⟩⟩
  | dptr x =>
    obtain ⟨b, off, h1, h2, h3, h4⟩ := h
    obtain ⟨h5, h6⟩ := hsh b h2 h3
    exact ⟨b, off, h1, h5, Nat.lt_of_lt_of_le h3 hs, fun j y hy => by
      obtain ⟨u, hu', hr⟩ := h4 j y hy
      exact ⟨u, by rw [cell_of_heap h6]; exact hu', hr.frame hs ho ht hu hsh none (fun p hp => by cases hp)⟩⟩
  | bdp s x =>
    have gs := hg s (Nat.beq_refl s)
    obtain ⟨b, off, h1, h2, h3, h4⟩ := h
    have h56 : (L' b).without s = .sh ∧ w'.heap[b]? = w.heap[b]? := by
      cases hb : L b with
      | sh => obtain ⟨h5, h6⟩ := hsh b hb h3; exact ⟨without_sh h5, h6⟩
      | fo => rw [hb] at h2; simp [Lab.without] at h2
      | my p =>
        rw [hb] at h2
        cases p with
        | nil => simp [Lab.without] at h2
        | cons t q =>
          simp only [Lab.without] at h2
          cases hts : Nat.beq t s with
          | false => rw [hts] at h2; cases h2
          | true =>
            have := Nat.eq_of_beq_eq_true hts
            subst this
            obtain ⟨h5, h6⟩ := hk b t q hb gs
            exact ⟨by rw [h5]; simp [Lab.without, Nat.beq_refl], h6⟩
    exact ⟨b, off, h1, h56.1, Nat.lt_of_lt_of_le h3 hs, fun j y hy => by
      obtain ⟨u, hu, hr⟩ := h4 j y hy
      exact ⟨u, by rw [cell_of_heap h56.2]; exact hu, repB gs hr⟩⟩
  | bor s x => exact repB (hg s (Nat.beq_refl s)) h
  | clo f caps =>
    simp only [Hold] at h ⊢
    rw [h]
    congr 2
    refine List.map_congr_left fun s hs => ?_
    exact (htm s (hg s (by simp only [TV.dep, List.any_eq_true]; exact ⟨s, hs, Nat.beq_refl s⟩))).symm

/-- What another slot holds stays when slot d is overwritten, if it does not hang on d. -/
theorem Hold.clear {L : Nat → Lab} {w : World} {tmps : Array Value} {n d : Nat} {u : Value} (hnd : n ≠ d) {tv : TV} {v : Value} (hd : tv.dep d = false) (h : Hold L w tmps n tv v) : Hold (FM.clear d L) w (tmps.setIfInBounds d u) n tv v :=
  Hold.relab (good := fun t => t ≠ d) (Nat.le_refl _) rfl rfl rfl (fun b h1 _ => ⟨clear_sh h1, rfl⟩) (fun b t q h1 h2 => ⟨clear_keep h1 h2, rfl⟩)
    (fun s hs => getD_set_other (fun e => hs e.symm)) hnd (fun s hs e => by subst e; rw [hd] at hs; cases hs) h

theorem RelL.put {S : Sys} {w0 : World} {L0 : Nat → Lab} {N : Nat} {σ : St} {a : Act} {w : World} {L : Nat → Lab} (h : RelL S w0 L0 N σ a w L) {d : Nat} (hd : DOk S N d) {tv : TV} {v : Value}
    (hv : Hold (clear d L) w (a.tmps.setIfInBounds d v) d tv v) : RelL S w0 L0 N (σ.put d tv) (a.put (some d) v) w (clear d L) := by
  refine ⟨h.defers, by simp [Act.put, h.size], h.keep, h.lok.clear d, fun n hn => ?_, fun n hn => ?_, fun i hi => (getD_set_other (hd.ne hi)).trans (h.fix i hi), h.glob⟩
  · simp only [get, kill_eq, Act.put]
    by_cases hnd : d = n
    · subst hnd
      rw [Nat.beq_refl, cond_true, getD_set_same (by rw [h.size]; exact hd.lt)]
      exact hv
    · rw [not_beq hnd, cond_false, getD_set_other hnd]
      cases hdep : (get σ n).dep d with
      | true => trivial
      | false => exact Hold.clear (fun e => hnd e.symm) hdep (h.hold n hn)
  · simp only [get, kill_eq]
    rw [not_beq (by have := hd.lt; omega), cond_false]
    cases hdep : (get σ n).dep d with
    | true => rfl
    | false => exact h.out n hn

/-! ### one operation that computes or reads -/
def Step (S : Sys) (o : Oper) (σ σ' : St) : Prop :=
  ∀ (w0 : World) (L0 : Nat → Lab) (N : Nat) (a : Act) (w : World), (∀ d : Nat, o.dst = some d → DOk S N d) → Rel S w0 L0 N σ a w →
    ∃ v, (∀ w', Ext w w' → (execOp a.eval o).run S.P w' = .ok (.value v) w') ∧ Rel S w0 L0 N σ' (a.put o.dst v) w

/-- An operand that is not owned: its value, and what it holds, wherever it is put. -/
theorem hold_plain {S : Sys} {w0 : World} {L0 : Nat → Lab} {N : Nat} {σ : St} {a : Act} {w : World} {L : Nat → Lab} (h : RelL S w0 L0 N σ a w L) {x : Operand} {tv : TV} (hx : ov σ x = tv) (hne : tv ≠ .none) : ∃ n, Hold L w a.tmps n tv (a.eval x) ∧ (∀ t, x = .tmp t → n = t ∧ t < N) := by
  cases x with
  | tmp t =>
    simp only [ov] at hx
    have ht : t < N := by
      rcases Nat.lt_or_ge t N with h' | h'
      · exact h'
      · rw [h.out t h'] at hx; exact absurd hx.symm hne
    exact ⟨t, by have := h.hold t ht; rw [hx] at this; exact this, fun t' e => by cases e; exact ⟨rfl, ht⟩⟩
  | const v =>
    simp only [ov] at hx
    subst hx
    refine ⟨0, ?_, fun t e => by cases e⟩
    simp only [Hold, Act.eval]
    unfold AV.ofV
    split
    · exact .int
    · exact .bool
    · rename_i s
      have := @Rep.str L w (some [0]) s.data.toList
      simpa using this
    · exact .nil
    · exact .val
  | func f =>
    simp only [ov] at hx
    subst hx
    exact ⟨0, .val, fun t e => by cases e⟩
  | global g => simp only [ov] at hx; exact absurd hx.symm hne

/-- What is plain reads the same at any slot. -/
theorem Rep.replace {L : Nat → Lab} {w : World} {π π' : Option (List Nat)} {x : AV} {v : Value} (h : Rep L w π x v) (hx : x.isOwn = false) : Rep L w π' x v := by
  cases h with
  | int => exact .int
  | bool => exact .bool
  | str => exact .str
  | val => exact .val
  | agg hl h => exact .agg hl h
  | tup hl h => simp [AV.isOwn] at hx
  | nil => exact .nil
  | dead => exact .dead
  | slE h => exact .slE h
  | slS u h0 h1 h2 h3 h4 h5 => exact .slS u h0 h1 h2 h3 h4 h5
  | slO => simp [AV.isOwn] at hx
  | ptS u h1 h2 h3 h4 => exact .ptS u h1 h2 h3 h4
  | ptO => simp [AV.isOwn] at hx
  | fn h1 h2 h3 h4 h5 h6 => exact .fn h1 h2 h3 h4 h5 h6
  | mpS h1 h2 h3 => exact .mpS h1 h2 h3
  | mpO => simp [AV.isOwn] at hx

theorem Hold.move {L : Nat → Lab} {w : World} {tmps : Array Value} {n d : Nat} {v : Value} : ∀ {tv : TV}, tv.plain = true → Hold L w tmps n tv v → Hold L w tmps d tv v
  | .none, h, _ => by cases h
  | .av x, hp, h => Rep.replace h (by simpa [TV.plain] using hp)
  | .ref _, hp, _ => by cases hp
  | .rref _ _ _, _, h => h
  | .ptr _ _ _ _, _, h => h
  | .fpt _ _ _, _, h => h
  | .rptr _ _ _ _, _, h => h
  | .dptr _, _, h => h
  | .bdp _ _, _, h => h
  | .bor _ _, _, h => h
  | .clo _ _, _, h => h

theorem Hold.clearSelf {L : Nat → Lab} {w : World} {tmps : Array Value} {d : Nat} {v u : Value} : ∀ {tv : TV}, tv.plain = true → tv.dep d = false → Hold L w tmps d tv v → Hold (FM.clear d L) w (tmps.setIfInBounds d u) d tv v
  | tv, hp, hd, h => by
    have h1 : Hold (FM.clear d L) w (tmps.setIfInBounds d u) (d + 1) tv v := Hold.clear (by omega) hd (Hold.move hp h)
    exact Hold.move hp h1

/-- A value that is plain is put into a slot. -/
theorem Rel.putPlain {S : Sys} {w0 : World} {L0 : Nat → Lab} {N : Nat} {σ : St} {a : Act} {w : World} {L : Nat → Lab} (h : RelL S w0 L0 N σ a w L) {d n : Nat} (hd : DOk S N d) {tv : TV} {v : Value} (hp : tv.plain = true) (hdep : tv.dep d = false)
    (hv : Hold L w a.tmps n tv v) : Rel S w0 L0 N (σ.put d tv) (a.put (some d) v) w :=
  ⟨_, h.put hd (Hold.clearSelf hp hdep (Hold.move hp hv))⟩

theorem plain_ne {tv : TV} (h : tv.plain = true) : tv ≠ .none := fun e => by subst e; cases h

section
variable {S : Sys} {σ : St} {d : Nat} {ty : Nat} {pos : String} {aft : Array Edge} {g : Option (Nat × Bool)}

/-- A copy: 'move' or 'assign' of what is plain. -/
theorem s_mov {x : Operand} {tv : TV} (hx : ov σ x = tv) (hp : tv.plain = true) (hd : tv.dep d = false) : Step S ⟨some d, .move x, ty, pos, aft, g⟩ σ (σ.put d tv) := by
  intro w0 L0 N a w hN ⟨L, h⟩
  obtain ⟨n, hn, _⟩ := hold_plain h hx (plain_ne hp)
  exact ⟨a.eval x, fun w' _ => by simp [execOp], Rel.putPlain h (hN d rfl) hp hd hn⟩
theorem s_asg {x : Operand} {tv : TV} (hx : ov σ x = tv) (hp : tv.plain = true) (hd : tv.dep d = false) : Step S ⟨some d, .assign x, ty, pos, aft, g⟩ σ (σ.put d tv) := by
  intro w0 L0 N a w hN ⟨L, h⟩
  obtain ⟨n, hn, _⟩ := hold_plain h hx (plain_ne hp)
  exact ⟨a.eval x, fun w' _ => by simp [execOp], Rel.putPlain h (hN d rfl) hp hd hn⟩

theorem own_lt {S : Sys} {w0 : World} {L0 : Nat → Lab} {N : Nat} {σ : St} {a : Act} {w : World} {L : Nat → Lab} (h : RelL S w0 L0 N σ a w L) {t : Nat} {tv : TV} (hx : get σ t = tv) (hne : tv ≠ .none) : t < N := by
  rcases Nat.lt_or_ge t N with h' | h'
  · exact h'
  · rw [h.out t h'] at hx; exact absurd hx.symm hne

/-- What is owned is borrowed by a 'move'. -/
theorem s_movO {t : Nat} {x : AV} (_hx : get σ t = .av x) (htd : Nat.beq t d = false) : Step S ⟨some d, .move (.tmp t), ty, pos, aft, g⟩ σ (σ.put d (.ref t)) := by
  intro w0 L0 N a w hN ⟨L, h⟩
  refine ⟨a.eval (.tmp t), fun w' _ => by simp [execOp], _, h.put (hN d rfl) ?_⟩
  simp only [Hold, Act.eval]
  rw [getD_set_other (fun e => of_not_beq htd e.symm)]
/-- A borrowed thing is borrowed once more. -/
theorem s_movR {t s : Nat} (hx : get σ t = .ref s) (hsd : Nat.beq s d = false) : Step S ⟨some d, .move (.tmp t), ty, pos, aft, g⟩ σ (σ.put d (.ref s)) := by
  intro w0 L0 N a w hN ⟨L, h⟩
  have ht := own_lt h hx (by simp)
  have hh := h.hold t ht
  rw [hx] at hh
  refine ⟨a.eval (.tmp t), fun w' _ => by simp [execOp], _, h.put (hN d rfl) ?_⟩
  simp only [Hold, Act.eval] at hh ⊢
  rw [getD_set_other (fun e => of_not_beq hsd e.symm)]
  exact hh
end
end FM

/- An abstract machine over the kit's rules, part 3: operations that compute or read, one law each. -/
namespace FM
open Go Go.RowKit

def InR (n : Int) : Prop := -9223372036854775808 ≤ n ∧ n ≤ 9223372036854775807
theorem InR.wrap {n : Int} (h : InR n) : IntKind.i64.wrap n = n := IntWalk.i64_in n h

section
variable {S : Sys} {σ : St} {d : Nat} {ty : Nat} {pos : String} {aft : Array Edge} {g : Option (Nat × Bool)}

theorem ev_av {x : Operand} {y : AV} {w0 : World} {L0 : Nat → Lab} {N : Nat} {a : Act} {w : World} {L : Nat → Lab} (h : RelL S w0 L0 N σ a w L) (hx : ov σ x = .av y) : ∃ n, Rep L w (some [n]) y (a.eval x) :=
  let ⟨n, hn, _⟩ := hold_plain h hx (by simp)
  ⟨n, hn⟩
theorem ev_int {x : Operand} {n : Int} {w0 : World} {L0 : Nat → Lab} {N : Nat} {a : Act} {w : World} {L : Nat → Lab} (h : RelL S w0 L0 N σ a w L) (hx : ov σ x = .av (.int n)) : a.eval x = .int .i64 n := by
  obtain ⟨m, hm⟩ := ev_av h hx
  generalize a.eval x = v at hm
  cases hm; rfl
theorem ev_bool {x : Operand} {b : Bool} {w0 : World} {L0 : Nat → Lab} {N : Nat} {a : Act} {w : World} {L : Nat → Lab} (h : RelL S w0 L0 N σ a w L) (hx : ov σ x = .av (.bool b)) : a.eval x = .bool b := by
  obtain ⟨m, hm⟩ := ev_av h hx
  generalize a.eval x = v at hm
  cases hm; rfl
theorem ev_str {x : Operand} {s : List UInt8} {w0 : World} {L0 : Nat → Lab} {N : Nat} {a : Act} {w : World} {L : Nat → Lab} (h : RelL S w0 L0 N σ a w L) (hx : ov σ x = .av (.str s)) : a.eval x = .string ⟨s.toArray⟩ := by
  obtain ⟨m, hm⟩ := ev_av h hx
  generalize a.eval x = v at hm
  cases hm; rfl
theorem ev_val {x : Operand} {u : Value} {w0 : World} {L0 : Nat → Lab} {N : Nat} {a : Act} {w : World} {L : Nat → Lab} (h : RelL S w0 L0 N σ a w L) (hx : ov σ x = .av (.val u)) : a.eval x = u := by
  obtain ⟨m, hm⟩ := ev_av h hx
  generalize a.eval x = v at hm
  cases hm; rfl
theorem ev_nil {x : Operand} {w0 : World} {L0 : Nat → Lab} {N : Nat} {a : Act} {w : World} {L : Nat → Lab} (h : RelL S w0 L0 N σ a w L) (hx : ov σ x = .av .nil) : a.eval x = .slice none 0 0 := by
  obtain ⟨m, hm⟩ := ev_av h hx
  generalize a.eval x = v at hm
  cases hm; rfl

/-- A plain value that holds in every world is put. -/
theorem step_val {op : Op} {y : AV} (hy : y.isOwn = false) (h : ∀ w0 L0 N a w L, RelL S w0 L0 N σ a w L → ∃ v, (∀ w', Ext w w' → (execOp a.eval ⟨some d, op, ty, pos, aft, g⟩).run S.P w' = .ok (.value v) w') ∧ Rep L w none y v) :
    Step S ⟨some d, op, ty, pos, aft, g⟩ σ (σ.put d (.av y)) := by
  intro w0 L0 N a w hN ⟨L, hr⟩
  obtain ⟨v, h1, h2⟩ := h _ _ _ _ _ _ hr
  exact ⟨v, h1, Rel.putPlain (n := d) hr (hN d rfl) (by simp [TV.plain, hy]) rfl (h2.any _)⟩

/-- Arithmetic and tests on ints. -/
theorem s_bin2 {op : BinOp} {t t2 : Nat} {x y : Operand} {a b : Int} {r : AV} (hx : ov σ x = .av (.int a)) (hy : ov σ y = .av (.int b)) (hr : r.isOwn = false)
    (h : ∃ v, (∀ (L : Nat → Lab) (w : World), Rep L w none r v) ∧ ∀ w, (do eqGuard op t x y (.int .i64 a) (.int .i64 b); binOp op t (.int .i64 a) (.int .i64 b) : Sem Value).run S.P w = .ok v w) :
    Step S ⟨some d, .binOp op t x y t2, ty, pos, aft, g⟩ σ (σ.put d (.av r)) := by
  obtain ⟨v, h1, h2⟩ := h
  refine step_val hr fun w0 L0 N c w L hR => ⟨v, fun w' _ => ?_, h1 L w⟩
  have e := h2 w'
  simp only [execOp, ev_int hR hx, ev_int hR hy] at e ⊢
  simp only [Sem.run_bind] at e ⊢
  rw [e]; rfl
theorem s_add {t t2 : Nat} {x y : Operand} {a b : Int} (hx : ov σ x = .av (.int a)) (hy : ov σ y = .av (.int b)) (hr : InR (a + b)) : Step S ⟨some d, .binOp .add t x y t2, ty, pos, aft, g⟩ σ (σ.put d (.av (.int (a + b)))) :=
  s_bin2 hx hy rfl ⟨_, fun _ _ => .int, fun w => by simp [eqGuard, binOp, Op.intArith, hr.wrap]⟩
theorem s_sub {t t2 : Nat} {x y : Operand} {a b : Int} (hx : ov σ x = .av (.int a)) (hy : ov σ y = .av (.int b)) (hr : InR (a - b)) : Step S ⟨some d, .binOp .sub t x y t2, ty, pos, aft, g⟩ σ (σ.put d (.av (.int (a - b)))) :=
  s_bin2 hx hy rfl ⟨_, fun _ _ => .int, fun w => by simp [eqGuard, binOp, Op.intArith, hr.wrap]⟩
theorem s_mul {t t2 : Nat} {x y : Operand} {a b : Int} (hx : ov σ x = .av (.int a)) (hy : ov σ y = .av (.int b)) (hr : InR (a * b)) : Step S ⟨some d, .binOp .mul t x y t2, ty, pos, aft, g⟩ σ (σ.put d (.av (.int (a * b)))) :=
  s_bin2 hx hy rfl ⟨_, fun _ _ => .int, fun w => by simp [eqGuard, binOp, Op.intArith, hr.wrap]⟩
theorem s_quo {t t2 : Nat} {x y : Operand} {a b : Int} (hx : ov σ x = .av (.int a)) (hy : ov σ y = .av (.int b)) (h0 : b ≠ 0) (hr : InR (a.tdiv b)) : Step S ⟨some d, .binOp .quo t x y t2, ty, pos, aft, g⟩ σ (σ.put d (.av (.int (a.tdiv b)))) :=
  s_bin2 hx hy rfl ⟨_, fun _ _ => .int, fun w => by simp [eqGuard, binOp, Op.intDiv, hr.wrap, h0]⟩
theorem s_rem {t t2 : Nat} {x y : Operand} {a b : Int} (hx : ov σ x = .av (.int a)) (hy : ov σ y = .av (.int b)) (h0 : b ≠ 0) : Step S ⟨some d, .binOp .rem t x y t2, ty, pos, aft, g⟩ σ (σ.put d (.av (.int (a.tmod b)))) :=
  s_bin2 hx hy rfl ⟨_, fun _ _ => .int, fun w => by simp [eqGuard, binOp, Op.intDiv, h0]⟩
theorem s_lss {t t2 : Nat} {x y : Operand} {a b : Int} (hx : ov σ x = .av (.int a)) (hy : ov σ y = .av (.int b)) : Step S ⟨some d, .binOp .lss t x y t2, ty, pos, aft, g⟩ σ (σ.put d (.av (.bool (decide (a < b))))) :=
  s_bin2 hx hy rfl ⟨_, fun _ _ => .bool, fun w => by simp [eqGuard, binOp, Op.intCmp]⟩
theorem s_leq {t t2 : Nat} {x y : Operand} {a b : Int} (hx : ov σ x = .av (.int a)) (hy : ov σ y = .av (.int b)) : Step S ⟨some d, .binOp .leq t x y t2, ty, pos, aft, g⟩ σ (σ.put d (.av (.bool (decide (a ≤ b))))) :=
  s_bin2 hx hy rfl ⟨_, fun _ _ => .bool, fun w => by simp [eqGuard, binOp, Op.intCmp]⟩
theorem s_gtr {t t2 : Nat} {x y : Operand} {a b : Int} (hx : ov σ x = .av (.int a)) (hy : ov σ y = .av (.int b)) : Step S ⟨some d, .binOp .gtr t x y t2, ty, pos, aft, g⟩ σ (σ.put d (.av (.bool (decide (b < a))))) :=
  s_bin2 hx hy rfl ⟨_, fun _ _ => .bool, fun w => by simp [eqGuard, binOp, Op.intCmp]⟩
theorem s_geq {t t2 : Nat} {x y : Operand} {a b : Int} (hx : ov σ x = .av (.int a)) (hy : ov σ y = .av (.int b)) : Step S ⟨some d, .binOp .geq t x y t2, ty, pos, aft, g⟩ σ (σ.put d (.av (.bool (decide (b ≤ a))))) :=
  s_bin2 hx hy rfl ⟨_, fun _ _ => .bool, fun w => by simp [eqGuard, binOp, Op.intCmp]⟩
theorem s_eql {t t2 : Nat} {x y : Operand} {a b : Int} (hx : ov σ x = .av (.int a)) (hy : ov σ y = .av (.int b)) : Step S ⟨some d, .binOp .eql t x y t2, ty, pos, aft, g⟩ σ (σ.put d (.av (.bool (decide (a = b))))) :=
  s_bin2 hx hy rfl ⟨_, fun _ _ => .bool, fun w => by simp [eqGuard, binOp, Op.intCmp]; rw [Bool.eq_iff_iff]; simp⟩
theorem s_neq {t t2 : Nat} {x y : Operand} {a b : Int} (hx : ov σ x = .av (.int a)) (hy : ov σ y = .av (.int b)) : Step S ⟨some d, .binOp .neq t x y t2, ty, pos, aft, g⟩ σ (σ.put d (.av (.bool (decide (a ≠ b))))) :=
  s_bin2 hx hy rfl ⟨_, fun _ _ => .bool, fun w => by simp [eqGuard, binOp, Op.intCmp]; rw [Bool.eq_iff_iff]; simp⟩

theorem bits64_and (a b : Nat) (ha : a < 9223372036854775808) : IntKind.i64.wrap (((BitVec.ofInt 64 (a : Int)) &&& (BitVec.ofInt 64 (b : Int))).toNat : Int) = ((a &&& b : Nat) : Int) := by
  have h1 : (BitVec.ofInt 64 (a : Int)).toNat = a := by simp; omega
  have h2 : a &&& b ≤ a := Nat.and_le_left
  rw [BitVec.toNat_and, h1]
  have h3 : a &&& (BitVec.ofInt 64 (b : Int)).toNat = a &&& b := by
    have : (BitVec.ofInt 64 (b : Int)).toNat = b % 2 ^ 64 := by simp
    rw [this]
    apply Nat.eq_of_testBit_eq
    intro i
    rw [Nat.testBit_and, Nat.testBit_and, Nat.testBit_mod_two_pow]
    by_cases hi : i < 64
    · simp [hi]
    · have : a.testBit i = false := Nat.testBit_lt_two_pow (Nat.lt_of_lt_of_le ha (by
        calc 9223372036854775808 = 2 ^ 63 := by decide
          _ ≤ 2 ^ i := Nat.pow_le_pow_right (by decide) (by omega)))
      simp [this]
  rw [h3]
  exact IntWalk.i64_in _ (by omega)
theorem s_and {t t2 : Nat} {x y : Operand} {a b : Int} (hx : ov σ x = .av (.int a)) (hy : ov σ y = .av (.int b)) (h0 : 0 ≤ a) (h1 : 0 ≤ b) (hr : InR a) : Step S ⟨some d, .binOp .and t x y t2, ty, pos, aft, g⟩ σ (σ.put d (.av (.int ((a.toNat &&& b.toNat : Nat) : Int)))) :=
  s_bin2 hx hy rfl ⟨_, fun _ _ => .int, fun w => by
    obtain ⟨n, rfl⟩ := Int.eq_ofNat_of_zero_le h0
    obtain ⟨m, rfl⟩ := Int.eq_ofNat_of_zero_le h1
    have := bits64_and n m (by unfold InR at hr; omega)
    simp only [eqGuard, binOp, Op.intBits, Int.toNat_natCast]
    rw [← this]; rfl⟩
theorem s_shl {t t2 : Nat} {x y : Operand} {a b : Int} (hx : ov σ x = .av (.int a)) (hy : ov σ y = .av (.int b)) (h0 : 0 ≤ b) (h1 : b ≤ 62) (hr : InR (a * 2 ^ b.toNat)) : Step S ⟨some d, .binOp .shl t x y t2, ty, pos, aft, g⟩ σ (σ.put d (.av (.int (a * 2 ^ b.toNat)))) :=
  s_bin2 hx hy rfl ⟨_, fun _ _ => .int, fun w => by
    have hm : min b.toNat IntKind.i64.bits = b.toNat := by simp [IntKind.bits]; omega
    simp only [eqGuard, binOp, Op.shift, hm]
    simp [hr.wrap, show ¬ b < 0 by omega]⟩
theorem s_shr {t t2 : Nat} {x y : Operand} {a b : Int} (hx : ov σ x = .av (.int a)) (hy : ov σ y = .av (.int b)) (h0 : 0 ≤ b) (h1 : b ≤ 62) : Step S ⟨some d, .binOp .shr t x y t2, ty, pos, aft, g⟩ σ (σ.put d (.av (.int (a.fdiv (2 ^ b.toNat))))) :=
  s_bin2 hx hy rfl ⟨_, fun _ _ => .int, fun w => by
    have hm : min b.toNat IntKind.i64.bits = b.toNat := by simp [IntKind.bits]; omega
    simp only [eqGuard, binOp, Op.shift, hm]
    simp [show ¬ b < 0 by omega]⟩

theorem s_neg {t : Nat} {x : Operand} {a : Int} (hx : ov σ x = .av (.int a)) (hr : InR (-a)) : Step S ⟨some d, .unOp .neg t x, ty, pos, aft, g⟩ σ (σ.put d (.av (.int (-a)))) :=
  step_val rfl fun w0 L0 N c w L hR => ⟨_, fun w' _ => by
    have : IntKind.i64.wrap (0 - a) = -a := by rw [Int.zero_sub]; exact hr.wrap
    simp only [execOp, ev_int hR hx, Op.unary, Op.intArith, this]; rfl, .int⟩
theorem s_not {t : Nat} {x : Operand} {b : Bool} (hx : ov σ x = .av (.bool b)) : Step S ⟨some d, .unOp .not t x, ty, pos, aft, g⟩ σ (σ.put d (.av (.bool (!b)))) :=
  step_val rfl fun w0 L0 N c w L hR => ⟨_, fun w' _ => by
    simp only [execOp, ev_bool hR hx, Op.unary]; rfl, .bool⟩

theorem s_pickT {c x y : Operand} {tv : TV} (hc : ov σ c = .av (.bool true)) (hx : ov σ x = tv) (hp : tv.plain = true) (hd : tv.dep d = false) : Step S ⟨some d, .pick c x y, ty, pos, aft, g⟩ σ (σ.put d tv) := by
  intro w0 L0 N a w hN ⟨L, h⟩
  obtain ⟨n, hn, _⟩ := hold_plain h hx (plain_ne hp)
  exact ⟨a.eval x, fun w' _ => by simp only [execOp, ev_bool h hc]; rfl, Rel.putPlain h (hN d rfl) hp hd hn⟩
theorem s_pickF {c x y : Operand} {tv : TV} (hc : ov σ c = .av (.bool false)) (hx : ov σ y = tv) (hp : tv.plain = true) (hd : tv.dep d = false) : Step S ⟨some d, .pick c x y, ty, pos, aft, g⟩ σ (σ.put d tv) := by
  intro w0 L0 N a w hN ⟨L, h⟩
  obtain ⟨n, hn, _⟩ := hold_plain h hx (plain_ne hp)
  exact ⟨a.eval y, fun w' _ => by simp only [execOp, ev_bool h hc]; rfl, Rel.putPlain h (hN d rfl) hp hd hn⟩

theorem s_min {ts : Array Nat} {x y : Operand} {a b : Int} (hx : ov σ x = .av (.int a)) (hy : ov σ y = .av (.int b)) : Step S ⟨some d, .call ⟨.builtin .min, #[x, y], ts⟩, ty, pos, aft, g⟩ σ (σ.put d (.av (.int (min a b)))) :=
  step_val rfl fun w0 L0 N c w L hR => ⟨.int .i64 (min a b), fun w' _ => by
    have : (if b < a then b else a) = min a b := by split <;> omega
    simp [execOp, resolve, invoke, builtin, Builtin.min_, Builtin.min2, ev_int hR hx, ev_int hR hy, this], .int⟩
theorem s_max {ts : Array Nat} {x y : Operand} {a b : Int} (hx : ov σ x = .av (.int a)) (hy : ov σ y = .av (.int b)) : Step S ⟨some d, .call ⟨.builtin .max, #[x, y], ts⟩, ty, pos, aft, g⟩ σ (σ.put d (.av (.int (max a b)))) :=
  step_val rfl fun w0 L0 N c w L hR => ⟨.int .i64 (max a b), fun w' _ => by
    have : (if a < b then b else a) = max a b := by split <;> omega
    simp [execOp, resolve, invoke, builtin, Builtin.max_, Builtin.max2, ev_int hR hx, ev_int hR hy, this], .int⟩

/-! ### slices that are read -/
def rd (σ : St) : TV → AV
  | .av x => x
  | .ref s => match get σ s with
    | .av x => x
    | _ => .dead
  | .rref _ _ y => y
  | .bor _ x => x
  | _ => .dead

/-- The reading of an operand, owned, borrowed or shared. -/
theorem rd_ok {x : Operand} {y : AV} {w0 : World} {L0 : Nat → Lab} {N : Nat} {a : Act} {w : World} {L : Nat → Lab} (h : RelL S w0 L0 N σ a w L) (hx : rd σ (ov σ x) = y) (hy : y ≠ .dead) :
    ∃ L' π, (∀ b p, L' b = .my p → L b = .my p) ∧ (∀ b, b < w.heap.size → L b = .sh → L' b = .sh) ∧ Rep L' w π y (a.eval x) := by
  cases hov : ov σ x with
  | av z =>
    rw [hov] at hx; simp only [rd] at hx; subst hx
    obtain ⟨n, hn⟩ := ev_av h hov
    exact ⟨L, _, fun _ _ h => h, fun _ _ h => h, hn⟩
  | ref s =>
    rw [hov] at hx; simp only [rd] at hx
    obtain ⟨n, hn, _⟩ := hold_plain h hov (by simp)
    simp only [Hold] at hn
    cases hs : get σ s with
    | av z =>
      rw [hs] at hx; simp only at hx; subst hx
      have := h.hold s (own_lt h hs (by simp))
      rw [hs] at this
      exact ⟨L, _, fun _ _ h => h, fun _ _ h => h, by rw [hn]; exact this⟩
    | _ => rw [hs] at hx; exact absurd hx.symm hy
  | rref s i z =>
    rw [hov] at hx; simp only [rd] at hx; subst hx
    obtain ⟨n, ⟨b, hb, hcell, hr⟩, _⟩ := hold_plain h hov (by simp)
    exact ⟨L, _, fun _ _ h => h, fun _ _ h => h, hr hy⟩
  | bor s z =>
    rw [hov] at hx; simp only [rd] at hx; subst hx
    obtain ⟨n, hn, _⟩ := hold_plain h hov (by simp)
    exact ⟨_, _, fun b p hb => without_my hb, fun b _ hb => without_sh hb, hn⟩
  | _ => rw [hov] at hx; exact absurd hx.symm hy

theorem sl_inv {L : Nat → Lab} {w : World} {π : Option (List Nat)} {o : Bool} {c : Nat} {xs : List AV} {v : Value} (h : Rep L w π (.sl o c xs) v) : ∃ a cap, v = .slice a xs.length cap := by
  cases h with
  | slE h => exact ⟨_, _, rfl⟩
  | slS => exact ⟨_, _, rfl⟩
  | slO => exact ⟨_, _, rfl⟩

theorem s_lenS {t : Nat} {x : Operand} {o : Bool} {c : Nat} {xs : List AV} {e sz by_ : Nat} {z : List AV} (hT : S.T t = some ⟨.slice e, sz, by_, z⟩) (hx : rd σ (ov σ x) = .sl o c xs) :
    Step S ⟨some d, .call ⟨.builtin .len, #[x], #[t]⟩, ty, pos, aft, g⟩ σ (σ.put d (.av (.int (xs.length : Nat)))) :=
  step_val rfl fun w0 L0 N c w L hR => ⟨.int .i64 (xs.length : Nat), fun w' _ => by
    obtain ⟨L', π, _, _, h⟩ := rd_ok hR hx (by simp)
    obtain ⟨a, cap, hv⟩ := sl_inv h
    obtain ⟨dd, hd, he⟩ := (S.ok t _ hT).desc
    simp only [TK.ofDesc] at he
    subst he
    simp [execOp, resolve, invoke, builtin, Builtin.len_, hv, run_underlying hd, goInt], .int⟩
theorem s_lenM {α : Type} {f : α → AV} {l : List α} {t : Nat} {x : Operand} {o : Bool} {c : Nat} {e sz by_ : Nat} {z : List AV} (hT : S.T t = some ⟨.slice e, sz, by_, z⟩) (hx : rd σ (ov σ x) = .sl o c (l.map f)) :
    Step S ⟨some d, .call ⟨.builtin .len, #[x], #[t]⟩, ty, pos, aft, g⟩ σ (σ.put d (.av (.int (l.length : Nat)))) := by
  have := s_lenS (d := d) (ty := ty) (pos := pos) (aft := aft) (g := g) hT hx
  rwa [List.length_map] at this
theorem s_lenN {t : Nat} {x : Operand} {e sz by_ : Nat} {z : List AV} (hT : S.T t = some ⟨.slice e, sz, by_, z⟩) (hx : ov σ x = .av .nil) :
    Step S ⟨some d, .call ⟨.builtin .len, #[x], #[t]⟩, ty, pos, aft, g⟩ σ (σ.put d (.av (.int 0))) :=
  step_val rfl fun w0 L0 N c w L hR => ⟨.int .i64 0, fun w' _ => by
    obtain ⟨dd, hd, he⟩ := (S.ok t _ hT).desc
    simp only [TK.ofDesc] at he
    subst he
    simp [execOp, resolve, invoke, builtin, Builtin.len_, ev_nil hR hx, run_underlying hd, goInt], .int⟩
theorem s_lenStr {t : Nat} {x : Operand} {s : List UInt8} {sz by_ : Nat} {z : List AV} (hT : S.T t = some ⟨.str, sz, by_, z⟩) (hx : ov σ x = .av (.str s)) :
    Step S ⟨some d, .call ⟨.builtin .len, #[x], #[t]⟩, ty, pos, aft, g⟩ σ (σ.put d (.av (.int (s.length : Nat)))) :=
  step_val rfl fun w0 L0 N c w L hR => ⟨.int .i64 (s.length : Nat), fun w' _ => by
    obtain ⟨dd, hd, he⟩ := (S.ok t _ hT).desc
    simp only [TK.ofDesc] at he
    subst he
    have : ByteArray.size ⟨s.toArray⟩ = s.length := by simp [ByteArray.size]
    simp [execOp, resolve, invoke, builtin, Builtin.len_, ev_str hR hx, run_underlying hd, goInt, this], .int⟩

/-! ### addresses and loads -/
theorem addr_add (b o n : Nat) : (⟨b, o, none⟩ : Addr).add n = ⟨b, o + n, none⟩ := by unfold Addr.add; split <;> simp_all

theorem run_indexAt {P : Program} {t e c : Nat} {b off len cap : Nat} {i : Int} (ht : P.underlying t = some (.slice e)) (hs : ∃ f, P.info? e = some f ∧ f.size = c) (h0 : 0 ≤ i) (h1 : i.toNat < len) (w : World) :
    (Instr.indexAt t (.slice (some ⟨b, off, none⟩) len cap) (.int .i64 i)).run P w = .ok (.pointer (some ⟨b, off + i.toNat * c, none⟩)) w := by
  obtain ⟨f, hf, rfl⟩ := hs
  have h2 : 0 ≤ i ∧ i < (len : Int) := by omega
  simp [Instr.indexAt, asIntOf, run_underlying ht, h2, Go.sizeOf, typeInfo, hf, addr_add]

theorem TOk.slice {P : Program} {t e sz by_ : Nat} {z : List AV} (h : TOk P t ⟨.slice e, sz, by_, z⟩) : P.underlying t = some (.slice e) := by
  obtain ⟨dd, hd, he⟩ := h.desc
  simp only [TK.ofDesc] at he
  subst he; exact hd
theorem TOk.size {P : Program} {t : Nat} {i : TI} (h : TOk P t i) : ∃ f, P.info? t = some f ∧ f.size = i.size :=
  let ⟨f, _, h1, h2, _⟩ := h.info; ⟨f, h1, h2⟩

/-- An element's cells, in the row's block. -/
theorem elem_cells {L : Nat → Lab} {w : World} {π : Option (List Nat)} {o : Bool} {c : Nat} {xs : List AV} {v : Value} (h : Rep L w π (.sl o c xs) v) {i : Nat} {y : AV} (hy : xs[i]? = some y) :
    ∃ b off cap, v = .slice (some ⟨b, off, none⟩) xs.length cap ∧ b < w.heap.size ∧ i < xs.length ∧
      ((o = false ∧ L b = .sh ∧ ∀ j z, y.cells[j]? = some z → ∃ u, w.cell? ⟨b, off + i * c + j, none⟩ = some u ∧ Rep L w none z u) ∨
       (o = true ∧ off = 0 ∧ ∃ p, π = some p ∧ L b = .my p ∧ ∀ j z, y.cells[j]? = some z → ∃ u, w.cell? ⟨b, off + i * c + j, none⟩ = some u ∧ Rep L w (some (p ++ [i * c + j])) z u)) := by
  have hi : i < xs.length := (List.getElem?_eq_some_iff.1 hy).1
  cases h with
  | slE h => simp at hy
  | @slS _ c xs b off cap u hcap hL hb hc hcell hr =>
    refine ⟨b, off, cap, rfl, hb, hi, .inl ⟨rfl, hL, fun j z hz => ?_⟩⟩
    have hf := flat_get hc hy hz
    have hj : j < c := by have := (List.getElem?_eq_some_iff.1 hz).1; rw [hc y (List.mem_of_getElem? hy)] at this; exact this
    have hlt : i * c + j < xs.length * c := by
      have := (List.getElem?_eq_some_iff.1 hf).1
      rwa [flat_length hc] at this
    exact ⟨_, by rw [Nat.add_assoc]; exact hcell _ hlt, hr _ z hf⟩
  | @slO p c xs b cap arr e u hL hb hcap hsz hc hcell hr =>
    refine ⟨b, 0, cap, rfl, (Array.getElem?_eq_some_iff.1 hb).1, hi, .inr ⟨rfl, rfl, p, rfl, hL, fun j z hz => ?_⟩⟩
    have hf := flat_get hc hy hz
    have hlt : i * c + j < xs.length * c := by
      have := (List.getElem?_eq_some_iff.1 hf).1
      rwa [flat_length hc] at this
    exact ⟨_, by rw [Nat.zero_add, cell_of_row w b _ arr e (0, 0) hb]; exact hcell _ hlt, hr _ z hf⟩

/-- The address of an element of a shared slice. -/
theorem s_ixaS {t e c sz by_ : Nat} {z : List AV} {ti : TI} {x i : Operand} {xs : List AV} {n : Int} {y : AV} (hx : ov σ x = .av (.sl false c xs)) (hi : ov σ i = .av (.int n)) (hT : S.T t = some ⟨.slice e, sz, by_, z⟩) (hE : S.T e = some ti) (hc : ti.size = c)
    (h0 : 0 ≤ n) (hy : xs[n.toNat]? = some y) : Step S ⟨some d, .indexAddr t x i, ty, pos, aft, g⟩ σ (σ.put d (.dptr y)) := by
  intro w0 L0 N a w hN ⟨L, hR⟩
  obtain ⟨m, hm⟩ := ev_av hR hx
  obtain ⟨b, off, cap, hv, hb, hlt, ⟨_, hL, hcs⟩ | ⟨h, _⟩⟩ := elem_cells hm hy
  · refine ⟨.pointer (some ⟨b, off + n.toNat * c, none⟩), fun w' _ => ?_, Rel.putPlain (n := d) hR (hN d rfl) rfl rfl ⟨b, off + n.toNat * c, rfl, hL, hb, hcs⟩⟩
    subst hc
    simp only [execOp, hv, ev_int hR hi, Sem.run_bind, run_indexAt (S.ok t _ hT).slice (S.ok e _ hE).size h0 hlt]
    rfl
  · cases h
/-- .. of a slice that this call owns. -/
theorem s_ixaO {t e c sz by_ : Nat} {z : List AV} {ti : TI} {x i : Operand} {s : Nat} {xs : List AV} {n : Int} {y : AV} (hx : ov σ x = .ref s) (hs : get σ s = .av (.sl true c xs)) (hi : ov σ i = .av (.int n)) (hT : S.T t = some ⟨.slice e, sz, by_, z⟩) (hE : S.T e = some ti) (hc : ti.size = c)
    (h0 : 0 ≤ n) (hy : xs[n.toNat]? = some y) (hsd : Nat.beq s d = false) : Step S ⟨some d, .indexAddr t x i, ty, pos, aft, g⟩ σ (σ.put d (.ptr s n.toNat c y)) := by
  intro w0 L0 N a w hN ⟨L, hR⟩
  obtain ⟨m, hm, _⟩ := hold_plain hR hx (by simp)
  simp only [Hold] at hm
  have hh := hR.hold s (own_lt hR hs (by simp))
  rw [hs, ← hm] at hh
  obtain ⟨b, off, cap, hv, hb, hlt, ⟨h, _⟩ | ⟨_, rfl, p, hp, hL, hcs⟩⟩ := elem_cells hh hy
  · cases h
  · cases hp
    refine ⟨.pointer (some ⟨b, 0 + n.toNat * c, none⟩), fun w' _ => ?_, Rel.putPlain (n := d) hR (hN d rfl) rfl hsd ⟨b, hL, by rw [Nat.zero_add], fun _ j z hz => ?_⟩⟩
    · subst hc
      simp only [execOp, hv, ev_int hR hi, Sem.run_bind, run_indexAt (S.ok t _ hT).slice (S.ok e _ hE).size h0 hlt]
      rfl
    · have := hcs j z hz
      rwa [Nat.zero_add] at this
/-- .. of a slice that is borrowed whole. -/
theorem s_ixaB {t e c sz by_ : Nat} {z : List AV} {ti : TI} {x i : Operand} {s : Nat} {xs : List AV} {n : Int} {y : AV} (hx : ov σ x = .bor s (.sl false c xs)) (hi : ov σ i = .av (.int n)) (hT : S.T t = some ⟨.slice e, sz, by_, z⟩) (hE : S.T e = some ti) (hc : ti.size = c)
    (h0 : 0 ≤ n) (hy : xs[n.toNat]? = some y) (hsd : Nat.beq s d = false) : Step S ⟨some d, .indexAddr t x i, ty, pos, aft, g⟩ σ (σ.put d (.bdp s y)) := by
  intro w0 L0 N a w hN ⟨L, hR⟩
  obtain ⟨m, hm, _⟩ := hold_plain hR hx (by simp)
  obtain ⟨b, off, cap, hv, hb, hlt, ⟨_, hL, hcs⟩ | ⟨h, _⟩⟩ := elem_cells hm hy
  · refine ⟨.pointer (some ⟨b, off + n.toNat * c, none⟩), fun w' _ => ?_, Rel.putPlain (n := d) hR (hN d rfl) rfl hsd ⟨b, off + n.toNat * c, rfl, hL, hb, hcs⟩⟩
    subst hc
    simp only [execOp, hv, ev_int hR hi, Sem.run_bind, run_indexAt (S.ok t _ hT).slice (S.ok e _ hE).size h0 hlt]
    rfl
  · cases h
/-- .. of a row of a slice that this call owns. -/
theorem s_ixaR {t e sz by_ : Nat} {z : List AV} {ti : TI} {x i : Operand} {s r : Nat} {xs : List AV} {n : Int} {y : AV} (hx : ov σ x = .rref s r (.sl true 1 xs)) (hi : ov σ i = .av (.int n)) (hT : S.T t = some ⟨.slice e, sz, by_, z⟩) (hE : S.T e = some ti) (hc : ti.size = 1)
    (h0 : 0 ≤ n) (hy : xs[n.toNat]? = some y) (h1 : y.cells = [y]) (hsd : Nat.beq s d = false) : Step S ⟨some d, .indexAddr t x i, ty, pos, aft, g⟩ σ (σ.put d (.rptr s r n.toNat y)) := by
  intro w0 L0 N a w hN ⟨L, hR⟩
  obtain ⟨m, ⟨b0, _, _, hrep⟩, _⟩ := hold_plain hR hx (by simp)
  obtain ⟨b, off, cap, hv, hb, hlt, ⟨h, _⟩ | ⟨_, rfl, p, hp, hL, hcs⟩⟩ := elem_cells (hrep (by simp)) hy
  · cases h
  · cases hp
    refine ⟨.pointer (some ⟨b, 0 + n.toNat * 1, none⟩), fun w' _ => ?_, Rel.putPlain (n := d) hR (hN d rfl) rfl hsd ⟨b, hL, by simp, fun _ => ?_⟩⟩
    · have hsz := (S.ok e _ hE).size
      rw [hc] at hsz
      simp only [execOp, hv, ev_int hR hi, Sem.run_bind, run_indexAt (S.ok t _ hT).slice hsz h0 hlt]
      rfl
    · obtain ⟨u, h1, h2⟩ := hcs 0 y (by rw [h1]; rfl)
      exact ⟨u, by simpa using h1, by simpa using h2⟩

def AV.fits (ti : TI) : AV → Bool
  | .agg cs => ti.k.isAgg && Nat.beq cs.length ti.size
  | _ => !ti.k.isAgg

theorem isAgg_of {P : Program} {t : Nat} {ti : TI} (h : TOk P t ti) (w : World) : (isAgg t).run P w = .ok ti.k.isAgg w := by
  obtain ⟨dd, hd, he⟩ := h.desc
  simp only [isAgg, Sem.run_bind, run_underlying hd, Result.andThen_ok]
  cases hk : ti.k with
  | plain =>
    rw [hk] at he
    simp only [TK.ofDesc] at he
    cases dd <;> first | rfl | exact he.elim
  | slice e => rw [hk] at he; simp only [TK.ofDesc] at he; subst he; rfl
  | struct fs => rw [hk] at he; simp only [TK.ofDesc] at he; obtain ⟨fields, rfl, _⟩ := he; rfl
  | arr n e => rw [hk] at he; simp only [TK.ofDesc] at he; subst he; rfl
  | str => rw [hk] at he; simp only [TK.ofDesc] at he; subst he; rfl
  | int k => rw [hk] at he; simp only [TK.ofDesc] at he; subst he; rfl

/-- A variable is read whose cells are known. -/
theorem run_loadVar_cells {P : Program} {t : Nat} {ti : TI} (h : TOk P t ti) {y : AV} (hf : y.fits ti = true) {b off : Nat} {w : World} (us : List Value) (hl : us.length = y.cells.length) (hc : ∀ (j : Nat) u, us[j]? = some u → w.cell? ⟨b, off + j, none⟩ = some u) :
    (loadVar t ⟨b, off, none⟩).run P w = .ok (match y with | .agg _ => .agg us.toArray | _ => us.headD undef) w := by
  simp only [loadVar, Sem.run_bind, isAgg_of h, Result.andThen_ok]
  cases y with
  | agg cs =>
    simp only [AV.fits, Bool.and_eq_true] at hf
    obtain ⟨f, hi, hs⟩ := h.size
    have hlen : f.size = us.length := by rw [hs, hl]; exact (Nat.eq_of_beq_eq_true hf.2).symm
    simp only [hf.1, if_true, Sem.run_bind, Go.sizeOf, typeInfo, run_program, Result.andThen_ok, hi, Sem.run_pure, hlen]
    have := run_loadCells_list (P := P) w ⟨b, off, none⟩ us (fun j v hv => by rw [addr_add]; exact hc j v hv)
    rw [this]; rfl
  | _ =>
    simp only [AV.fits, Bool.not_eq_true'] at hf
    simp only [hf]
    cases us with
    | nil => simp [AV.cells] at hl
    | cons u us =>
      have := hc 0 u rfl
      rw [Nat.add_zero] at this
      simp [run_load, this]

/-- Cells that each read as told, gathered. -/
theorem gather {R : Nat → AV → Value → Prop} : ∀ (cs : List AV) (k : Nat), (∀ j z, cs[j]? = some z → ∃ u, R (k + j) z u) → ∃ us : List Value, us.length = cs.length ∧ ∀ j z u, cs[j]? = some z → us[j]? = some u → R (k + j) z u
  | [], _, _ => ⟨[], rfl, fun j z u h => by simp at h⟩
  | c :: cs, k, h => by
    obtain ⟨u, hu⟩ := h 0 c rfl
    obtain ⟨us, hl, hr⟩ := gather cs (k + 1) fun j z hz => by
      obtain ⟨u, hu⟩ := h (j + 1) z (by simpa using hz)
      exact ⟨u, by rwa [show k + 1 + j = k + (j + 1) by omega]⟩
    refine ⟨u :: us, by simp [hl], fun j z u' hz hu' => ?_⟩
    cases j with
    | zero => simp only [List.getElem?_cons_zero, Option.some.injEq] at hz hu'; subst hz; subst hu'; exact hu
    | succ j => simp only [List.getElem?_cons_succ] at hz hu'; have := hr j z u' hz hu'; rwa [show k + 1 + j = k + (j + 1) by omega] at this

theorem load_core {P : Program} {t : Nat} {ti : TI} (h : TOk P t ti) {y : AV} (hf : y.fits ti = true) {b off : Nat} {w : World} {L : Nat → Lab} {π : Nat → Option (List Nat)} (hb : b < w.heap.size) (hno : ∀ cs, y = .agg cs → ∀ (j : Nat) (z : AV), cs[j]? = some z → z.isOwn = false)
    (hc : ∀ j z, y.cells[j]? = some z → ∃ u, w.cell? ⟨b, off + j, none⟩ = some u ∧ Rep L w (π j) z u) :
    ∃ v, (∀ w', Ext w w' → (loadVar t ⟨b, off, none⟩).run P w' = .ok v w') ∧ Rep L w (π 0) y v ∧ (y.cells = [y] → w.cell? ⟨b, off, none⟩ = some v) := by
  obtain ⟨us, hl, hus⟩ := gather (R := fun j z u => w.cell? ⟨b, off + j, none⟩ = some u ∧ Rep L w (π j) z u) y.cells 0 (by simpa using hc)
  simp only [Nat.zero_add] at hus
  refine ⟨_, fun w' e => run_loadVar_cells h hf us hl fun j u hu => ?_, ?_, ?_⟩
  · have hj : j < y.cells.length := by rw [← hl]; exact (List.getElem?_eq_some_iff.1 hu).1
    rw [cell_of_heap (e.block b hb)]
    exact (hus j _ u (List.getElem?_eq_getElem hj) hu).1
  · cases y with
    | agg cs =>
      exact .agg hl fun i x v hx hv => Rep.replace (hus i x v hx hv).2 (hno cs rfl i x hx)
    | _ =>
      cases us with
      | nil => simp [AV.cells] at hl
      | cons u us => exact (hus 0 _ u rfl rfl).2
  · intro h1
    cases us with
    | nil => rw [h1] at hl; simp at hl
    | cons u us =>
      have := (hus 0 y u (by rw [h1]; rfl) rfl).1
      rw [Nat.add_zero] at this
      cases y with
      | agg cs =>
        simp only [AV.cells] at h1
        exfalso
        have h2 : SizeOf.sizeOf cs = SizeOf.sizeOf [AV.agg cs] := congrArg SizeOf.sizeOf h1
        simp at h2
        omega
      | _ => exact this

def AV.noOwn : AV → Bool
  | .agg cs => cs.all fun z => !z.isOwn
  | _ => true
theorem noOwn_spec {y : AV} (h : y.noOwn = true) : ∀ cs, y = .agg cs → ∀ (j : Nat) (z : AV), cs[j]? = some z → z.isOwn = false := by
  intro cs hy j z hz
  subst hy
  simp only [AV.noOwn, List.all_eq_true, Bool.not_eq_true'] at h
  exact h z (List.mem_of_getElem? hz)

/-- What a 'load' finds behind a pointer. -/
theorem s_ldD {t : Nat} {ti : TI} {x : Operand} {y : AV} (hx : ov σ x = .dptr y) (hT : S.T t = some ti) (hf : y.fits ti = true) (hp : y.isOwn = false) (hn : y.noOwn = true) : Step S ⟨some d, .load t x, ty, pos, aft, g⟩ σ (σ.put d (.av y)) :=
  step_val hp fun w0 L0 N c w L hR => by
    obtain ⟨m, ⟨b, off, hv, hL, hb, hc⟩, _⟩ := hold_plain hR hx (by simp)
    obtain ⟨v, h1, h2, _⟩ := load_core (S.ok t ti hT) hf hb (noOwn_spec hn) (π := fun _ => none) hc
    exact ⟨v, fun w' e => by simp only [execOp, hv, Instr.loadAt, Instr.sureAddr]; simp [h1 w' e], h2⟩
theorem s_ldP {t : Nat} {ti : TI} {x : Operand} {s i c : Nat} {y : AV} (hx : ov σ x = .ptr s i c y) (hT : S.T t = some ti) (hf : y.fits ti = true) (hp : y.isOwn = false) (hn : y.noOwn = true) (hy : y ≠ .dead) : Step S ⟨some d, .load t x, ty, pos, aft, g⟩ σ (σ.put d (.av y)) :=
  step_val hp fun w0 L0 N a w L hR => by
    obtain ⟨m, ⟨b, hL, hv, hc⟩, _⟩ := hold_plain hR hx (by simp)
    obtain ⟨v, h1, h2, _⟩ := load_core (S.ok t ti hT) hf (hR.lok.lt b _ hL) (noOwn_spec hn) (π := fun j => some [s, i * c + j]) (hc hy)
    exact ⟨v, fun w' e => by simp only [execOp, hv, Instr.loadAt, Instr.sureAddr]; simp [h1 w' e], Rep.replace h2 hp⟩
theorem s_ldF {t : Nat} {ti : TI} {x : Operand} {s o : Nat} {y : AV} (hx : ov σ x = .fpt s o y) (hT : S.T t = some ti) (hf : y.fits ti = true) (hp : y.isOwn = false) (hn : y.noOwn = true) (hy : y ≠ .dead) : Step S ⟨some d, .load t x, ty, pos, aft, g⟩ σ (σ.put d (.av y)) :=
  step_val hp fun w0 L0 N a w L hR => by
    obtain ⟨m, ⟨b, hL, hv, hc⟩, _⟩ := hold_plain hR hx (by simp)
    obtain ⟨v, h1, h2, _⟩ := load_core (S.ok t ti hT) hf (hR.lok.lt b _ hL) (noOwn_spec hn) (π := fun j => some [s, o + j]) (hc hy)
    exact ⟨v, fun w' e => by simp only [execOp, hv, Instr.loadAt, Instr.sureAddr]; simp [h1 w' e], Rep.replace h2 hp⟩
theorem s_ldR {t : Nat} {ti : TI} {x : Operand} {s i j : Nat} {y : AV} (hx : ov σ x = .rptr s i j y) (hT : S.T t = some ti) (hf : y.fits ti = true) (hp : y.isOwn = false) (hn : y.noOwn = true) (hy : y ≠ .dead) (h1 : y.cells = [y]) : Step S ⟨some d, .load t x, ty, pos, aft, g⟩ σ (σ.put d (.av y)) :=
  step_val hp fun w0 L0 N a w L hR => by
    obtain ⟨m, ⟨b, hL, hv, hc⟩, _⟩ := hold_plain hR hx (by simp)
    obtain ⟨u, hu, hr⟩ := hc hy
    obtain ⟨v, h1, h2, _⟩ := load_core (S.ok t ti hT) hf (hR.lok.lt b _ hL) (noOwn_spec hn) (π := fun k => some [s, i, j + k]) (off := j) (fun k z hz => by
      rw [h1] at hz
      cases k with
      | zero => simp only [List.getElem?_cons_zero, Option.some.injEq] at hz; subst hz; exact ⟨u, by simpa using hu, by simpa using hr⟩
      | succ k => simp at hz)
    exact ⟨v, fun w' e => by simp only [execOp, hv, Instr.loadAt, Instr.sureAddr]; simp [h1 w' e], Rep.replace h2 hp⟩
/-- An owned row is borrowed. -/
theorem s_ldRow {t : Nat} {ti : TI} {x : Operand} {s i : Nat} {y : AV} (hx : ov σ x = .ptr s i 1 y) (hT : S.T t = some ti) (hf : y.fits ti = true) (hy : y ≠ .dead) (h1 : y.cells = [y]) (hsd : Nat.beq s d = false) : Step S ⟨some d, .load t x, ty, pos, aft, g⟩ σ (σ.put d (.rref s i y)) := by
  intro w0 L0 N a w hN ⟨L, hR⟩
  obtain ⟨m, ⟨b, hL, hv, hc⟩, _⟩ := hold_plain hR hx (by simp)
  obtain ⟨v, h2, h3, h4⟩ := load_core (S.ok t ti hT) hf (hR.lok.lt b _ hL) (fun cs e => by
    subst e
    exfalso
    have h2 : SizeOf.sizeOf cs = SizeOf.sizeOf [AV.agg cs] := congrArg SizeOf.sizeOf h1
    simp at h2
    omega) (π := fun j => some [s, i * 1 + j]) (hc hy)
  rw [Nat.mul_one] at hv h2 h4
  refine ⟨v, fun w' e => by simp only [execOp, hv, Instr.loadAt, Instr.sureAddr]; simp [h2 w' e], Rel.putPlain (n := d) hR (hN d rfl) rfl hsd ⟨b, hL, h4 h1, fun _ => ?_⟩⟩
  simpa using h3
/-- An element of what is borrowed. -/
def AV.scalar : AV → Bool
  | .int _ | .bool _ | .str _ | .val _ | .nil => true
  | .agg cs => cs.all AV.flatPlain
  | _ => false
theorem Rep.flatPlain {L L' : Nat → Lab} {w w' : World} {π π' : Option (List Nat)} {x : AV} {v : Value} (h : Rep L w π x v) (hx : x.flatPlain = true) : Rep L' w' π' x v := by
  cases h <;> first | exact .int | exact .bool | exact .str | exact .val | exact .nil | (simp [AV.flatPlain] at hx)
theorem Rep.scalar {L L' : Nat → Lab} {w w' : World} {π π' : Option (List Nat)} {x : AV} {v : Value} (h : Rep L w π x v) (hx : x.scalar = true) : Rep L' w' π' x v := by
  cases h with
  | agg hl h => exact .agg hl fun i x v hx' hv => (h i x v hx' hv).flatPlain (by simp only [AV.scalar, List.all_eq_true] at hx; exact hx x (List.mem_of_getElem? hx'))
  | int => exact .int
  | bool => exact .bool
  | str => exact .str
  | val => exact .val
  | nil => exact .nil
  | _ => simp [AV.scalar] at hx
theorem scalar_noOwn {y : AV} (h : y.scalar = true) : y.noOwn = true ∧ y.isOwn = false := by
  cases y <;> simp_all [AV.scalar, AV.noOwn, AV.isOwn]
  intro x hx
  have := h x hx
  cases x <;> simp_all [AV.flatPlain]
theorem s_ldB {t : Nat} {ti : TI} {x : Operand} {s : Nat} {y : AV} (hx : ov σ x = .bdp s y) (hT : S.T t = some ti) (hf : y.fits ti = true) (hs : y.scalar = true) : Step S ⟨some d, .load t x, ty, pos, aft, g⟩ σ (σ.put d (.av y)) :=
  step_val (scalar_noOwn hs).2 fun w0 L0 N c w L hR => by
    obtain ⟨m, ⟨b, off, hv, hL, hb, hc⟩, _⟩ := hold_plain hR hx (by simp)
    obtain ⟨v, h1, h2, _⟩ := load_core (S.ok t ti hT) hf hb (noOwn_spec (scalar_noOwn hs).1) (π := fun _ => none) hc
    exact ⟨v, fun w' e => by simp only [execOp, hv, Instr.loadAt, Instr.sureAddr]; simp [h1 w' e], h2.scalar hs⟩
/-! ### what is owned changes its place -/
def strip : List Nat → List Nat → Option (List Nat)
  | [], q => some q
  | a :: P, b :: q => bif Nat.beq a b then strip P q else none
  | _ :: _, [] => none
theorem strip_spec : ∀ {P p q : List Nat}, strip P p = some q ↔ p = P ++ q
  | [], p, q => by simp [strip]
  | a :: P, [], q => by simp [strip]
  | a :: P, b :: p, q => by
    simp only [strip, List.cons_append, List.cons.injEq]
    cases h : Nat.beq a b with
    | true => rw [cond_true, strip_spec]; have := Nat.eq_of_beq_eq_true h; simp [this]
    | false => rw [cond_false]; have := of_not_beq h; simp; intro e; exact absurd e.symm this
/-- All that lies below the place P goes to slot d. -/
def mvl (P : List Nat) (d : Nat) (L : Nat → Lab) : Nat → Lab := fun b =>
  match L b with
  | .my p => match strip P p with
    | some q => .my (d :: q)
    | none => (Lab.my p).without d
  | l => l
theorem mvl_to {P : List Nat} {d : Nat} {L : Nat → Lab} {b : Nat} {q : List Nat} (h : L b = .my (P ++ q)) : mvl P d L b = .my (d :: q) := by
  simp only [mvl, h, strip_spec.2 (rfl : P ++ q = P ++ q)]
theorem mvl_keep {P : List Nat} {d : Nat} {L : Nat → Lab} {b t : Nat} {q : List Nat} (h : L b = .my (t :: q)) (ht : t ≠ d) (hP : strip P (t :: q) = none) : mvl P d L b = .my (t :: q) := by
  simp only [mvl, h, hP, Lab.without, not_beq ht, cond_false]
theorem mvl_sh {P : List Nat} {d : Nat} {L : Nat → Lab} {b : Nat} (h : L b = .sh) : mvl P d L b = .sh := by simp only [mvl, h]
theorem mvl_my {P : List Nat} {d : Nat} {L : Nat → Lab} {b : Nat} {p : List Nat} (h : mvl P d L b = .my p) : (∃ q, L b = .my (P ++ q) ∧ p = d :: q) ∨ (L b = .my p ∧ strip P p = none ∧ p.head? ≠ some d) := by
  simp only [mvl] at h
  cases hL : L b with
  | my p' =>
    rw [hL] at h
    simp only at h
    cases hs : strip P p' with
    | some q => rw [hs] at h; injection h with h; exact .inl ⟨q, by rw [strip_spec.1 hs], h.symm⟩
    | none =>
      rw [hs] at h
      have h1 := without_my h
      injection h1 with h1
      subst h1
      refine .inr ⟨rfl, hs, fun e => ?_⟩
      cases p' with
      | nil => cases e
      | cons t q => simp only [List.head?_cons, Option.some.injEq] at e; subst e; simp [Lab.without, Nat.beq_refl] at h
  | sh => rw [hL] at h; cases h
  | fo => rw [hL] at h; cases h
theorem mvl_fo {P : List Nat} {d : Nat} {L : Nat → Lab} {b : Nat} : mvl P d L b = .fo ↔ L b = .fo := by
  simp only [mvl]
  cases hL : L b with
  | my p =>
    simp only
    cases hs : strip P p with
    | some q => simp
    | none =>
      cases p with
      | nil => simp [Lab.without]
      | cons t q => simp only [Lab.without]; cases Nat.beq t d <;> simp
  | _ => simp
theorem LOk.mvl {L0 L : Nat → Lab} {w0 w : World} (h : LOk L0 w0 L w) (P : List Nat) (d : Nat) : LOk L0 w0 (FM.mvl P d L) w where
  lt b p hb := by
    rcases mvl_my hb with ⟨q, h1, _⟩ | ⟨h1, _⟩ <;> exact h.lt b _ h1
  inj b b' p hb hb' := by
    rcases mvl_my hb with ⟨q, h1, h2⟩ | ⟨h1, h2, h3⟩ <;> rcases mvl_my hb' with ⟨q', h1', h2'⟩ | ⟨h1', h2', h3'⟩
    · rw [h2] at h2'; cases h2'; exact h.inj _ _ _ h1 h1'
    · rw [h2] at h3'; exact absurd rfl h3'
    · rw [h2'] at h3; exact absurd rfl h3
    · exact h.inj _ _ _ h1 h1'
  head b p hb := by
    rcases mvl_my hb with ⟨q, _, h2⟩ | ⟨h1, _⟩
    · rw [h2]; simp
    · exact h.head b p h1
  old b p hlt hb := by
    rcases mvl_my hb with ⟨q, h1, _⟩ | ⟨h1, _⟩ <;> exact h.old b _ hlt h1
  fo b hb := mvl_fo.trans (h.fo b hb)
  new b hb hf := h.new b hb (mvl_fo.1 hf)

/-- What slot s owns goes to slot d. -/
theorem RelL.take {w0 : World} {L0 : Nat → Lab} {N : Nat} {a : Act} {w : World} {L : Nat → Lab} (h : RelL S w0 L0 N σ a w L) {s : Nat} {x : AV} (hs : get σ s = .av x) (hd : DOk S N d) (hsd : s ≠ d) :
    RelL S w0 L0 N ((σ.put s .none).put d (.av x)) (a.put (some d) (a.tmps.getD s undef)) w (mvl [s] d L) := by
  have hsN := own_lt h hs (by simp)
  refine ⟨h.defers, by simp [Act.put, h.size], h.keep, h.lok.mvl _ _, fun n hn => ?_, fun n hn => ?_, fun i hi => (getD_set_other (hd.ne hi)).trans (h.fix i hi), h.glob⟩
  · simp only [get, kill_eq, Act.put]
    by_cases hnd : d = n
    · subst hnd
      rw [Nat.beq_refl, cond_true, getD_set_same (by rw [h.size]; exact hd.lt)]
      have := h.hold s hsN
      rw [hs] at this
      refine Rep.frame (Nat.le_refl _) rfl rfl rfl (fun b h1 _ => ⟨mvl_sh h1, rfl⟩) this _ fun p hp => ?_
      cases hp
      exact ⟨[d], rfl, fun b q hb => ⟨mvl_to hb, rfl⟩⟩
    · rw [not_beq hnd, cond_false, getD_set_other hnd]
      by_cases hns : s = n
      · subst hns; rw [Nat.beq_refl, cond_true]; trivial
      · rw [not_beq hns, cond_false]
        cases hdep : (get σ n).dep s with
        | true => trivial
        | false =>
          rw [cond_false]
          cases hdep' : (get σ n).dep d with
          | true => trivial
          | false =>
            rw [cond_false]
            refine Hold.relab (good := fun t => t ≠ d ∧ t ≠ s) (Nat.le_refl _) rfl rfl rfl (fun b h1 _ => ⟨mvl_sh h1, rfl⟩) (fun b t q h1 h2 => ⟨mvl_keep h1 h2.1 ?_, rfl⟩)
              (fun s' hs' => getD_set_other (fun e => hs'.1 e.symm)) ⟨fun e => hnd e.symm, fun e => hns e.symm⟩ (fun s' hs' => ⟨fun e => ?_, fun e => ?_⟩) (h.hold n hn)
            · simp only [strip, not_beq (fun e => h2.2 e.symm : s ≠ t), cond_false]
            · subst e; rw [hdep'] at hs'; cases hs'
            · subst e; rw [hdep] at hs'; cases hs'
  · simp only [get, kill_eq]
    rw [not_beq (by have := hd.lt; omega), cond_false, not_beq (by omega), cond_false]
    have := h.out n hn
    rw [this]; rfl

theorem s_asgR {t s : Nat} {x : AV} (ht : get σ t = .ref s) (hs : get σ s = .av x) (hsd : Nat.beq s d = false) : Step S ⟨some d, .assign (.tmp t), ty, pos, aft, g⟩ σ ((σ.put s .none).put d (.av x)) := by
  intro w0 L0 N a w hN ⟨L, h⟩
  have hh := h.hold t (own_lt h ht (by simp))
  rw [ht] at hh
  simp only [Hold] at hh
  refine ⟨a.eval (.tmp t), fun w' _ => by simp [execOp], mvl [s] d L, ?_⟩
  have := h.take hs (hN d rfl) (of_not_beq hsd)
  simp only [Act.eval]
  rw [hh]; exact this
theorem s_asgO {s : Nat} {x : AV} (hs : get σ s = .av x) (hsd : Nat.beq s d = false) : Step S ⟨some d, .assign (.tmp s), ty, pos, aft, g⟩ σ ((σ.put s .none).put d (.av x)) := by
  intro w0 L0 N a w hN ⟨L, h⟩
  exact ⟨a.eval (.tmp s), fun w' _ => by simp [execOp], _, h.take hs (hN d rfl) (of_not_beq hsd)⟩

/-! ### tuples -/
def tupAt (σ : St) : Operand → Option (Nat × List AV)
  | .tmp t => match get σ t with
    | .av (.tup vs) => some (t, vs)
    | .ref s => match get σ s with
      | .av (.tup vs) => some (s, vs)
      | _ => none
    | _ => none
  | _ => none
theorem tupAt_spec {x : Operand} {s : Nat} {vs : List AV} (h : tupAt σ x = some (s, vs)) {w0 : World} {L0 : Nat → Lab} {N : Nat} {a : Act} {w : World} {L : Nat → Lab} (hR : RelL S w0 L0 N σ a w L) :
    get σ s = .av (.tup vs) ∧ a.eval x = a.tmps.getD s undef ∧ ∃ us : List Value, a.tmps.getD s undef = .tuple us.toArray ∧ us.length = vs.length ∧ ∀ i y v, vs[i]? = some y → us[i]? = some v → Rep L w (some [s, i]) y v := by
  have key : get σ s = .av (.tup vs) ∧ a.eval x = a.tmps.getD s undef := by
    cases x with
    | tmp t =>
      simp only [tupAt] at h
      cases ht : get σ t with
      | av y =>
        rw [ht] at h
        cases y <;> first | (simp only [Option.some.injEq, Prod.mk.injEq] at h; obtain ⟨rfl, rfl⟩ := h; exact ⟨ht, rfl⟩) | cases h
      | ref s' =>
        rw [ht] at h
        simp only at h
        cases hs' : get σ s' with
        | av y =>
          rw [hs'] at h
          cases y <;> first | (simp only [Option.some.injEq, Prod.mk.injEq] at h; obtain ⟨rfl, rfl⟩ := h; refine ⟨hs', ?_⟩; have := hR.hold t (own_lt hR ht (by simp)); rw [ht] at this; exact this) | cases h
        | _ => rw [hs'] at h; cases h
      | _ => rw [ht] at h; cases h
    | _ => cases h
  refine ⟨key.1, key.2, ?_⟩
  have := hR.hold s (own_lt hR key.1 (by simp))
  rw [key.1] at this
  simp only [Hold] at this
  generalize a.tmps.getD s undef = v at this
  cases this with
  | tup hl h => exact ⟨_, rfl, hl, h⟩
theorem s_extP {x : Operand} {s : Nat} {vs : List AV} {i : Nat} {y : AV} (hx : tupAt σ x = some (s, vs)) (hy : vs[i]? = some y) (hp : y.isOwn = false) : Step S ⟨some d, .extract x i, ty, pos, aft, g⟩ σ (σ.put d (.av y)) := by
  intro w0 L0 N a w hN ⟨L, hR⟩
  obtain ⟨_, h2, us, h3, h4, h5⟩ := tupAt_spec hx hR
  have hi : i < us.length := by rw [h4]; exact (List.getElem?_eq_some_iff.1 hy).1
  have hu := h5 i y us[i] hy (List.getElem?_eq_getElem hi)
  exact ⟨us[i], fun w' _ => by simp [execOp, h2, h3, Instr.extract, hi], Rel.putPlain (n := d) hR (hN d rfl) (by simp [TV.plain, hp]) rfl (Rep.replace hu hp)⟩
/-- What a tuple owns is taken out. -/
theorem s_extO {x : Operand} {s : Nat} {vs : List AV} {i : Nat} {y : AV} (hx : tupAt σ x = some (s, vs)) (hy : vs[i]? = some y) (hsd : Nat.beq s d = false) : Step S ⟨some d, .extract x i, ty, pos, aft, g⟩ σ ((σ.upd false s (.av (.tup (vs.set i .dead)))).put d (.av y)) := by
  intro w0 L0 N a w hN ⟨L, hR⟩
  have hdN := hN d rfl
  have hne := of_not_beq hsd
  obtain ⟨h1, h2, us, h3, h4, h5⟩ := tupAt_spec hx hR
  have hi : i < us.length := by rw [h4]; exact (List.getElem?_eq_some_iff.1 hy).1
  have hu := h5 i y us[i] hy (List.getElem?_eq_getElem hi)
  refine ⟨us[i], fun w' _ => by simp [execOp, h2, h3, Instr.extract, hi], mvl [s, i] d L, hR.defers, by simp [Act.put, hR.size], hR.keep, hR.lok.mvl _ _, fun n hn => ?_, fun n hn => ?_, fun i hi => (getD_set_other (hdN.ne hi)).trans (hR.fix i hi), hR.glob⟩
  · simp only [get, kill_eq, Act.put]
    by_cases hnd : d = n
    · subst hnd
      rw [Nat.beq_refl, cond_true, getD_set_same (by rw [hR.size]; exact hdN.lt)]
      refine Rep.frame (Nat.le_refl _) rfl rfl rfl (fun b h1 _ => ⟨mvl_sh h1, rfl⟩) hu _ fun p hp => ?_
      cases hp
      exact ⟨[d], rfl, fun b q hb => ⟨mvl_to hb, rfl⟩⟩
    · rw [not_beq hnd, cond_false, getD_set_other hnd]
      by_cases hns : s = n
      · subst hns
        rw [Nat.beq_refl, cond_true]
        simp only [TV.dep, cond_false, Hold]
        rw [h3]
        refine .tup (by simp [h4]) fun k z v hz hv => ?_
        rw [List.getElem?_set] at hz
        by_cases hik : i = k
        · subst hik
          rw [if_pos rfl] at hz
          split at hz
          · simp only [Option.some.injEq] at hz; subst hz; exact .dead
          · cases hz
        · rw [if_neg hik] at hz
          refine Rep.frame (Nat.le_refl _) rfl rfl rfl (fun b h1 _ => ⟨mvl_sh h1, rfl⟩) (h5 k z v hz hv) _ fun p hp => ?_
          cases hp
          exact ⟨[s, k], rfl, fun b q hb => ⟨mvl_keep hb hne (by simp [strip, Nat.beq_refl, not_beq hik]), rfl⟩⟩
      · rw [not_beq hns, cond_false]
        have hh := hR.hold n hn
        cases hdep : ((get σ n).stale false s).dep d with
        | true => trivial
        | false =>
          rw [cond_false]
          have key : ∀ tv : TV, tv.dep s = false → tv.dep d = false → Hold L w a.tmps n tv (a.tmps.getD n undef) → Hold (mvl [s, i] d L) w (a.tmps.setIfInBounds d us[i]) n tv (a.tmps.getD n undef) := fun tv hd1 hd2 hh =>
            Hold.relab (good := fun t => t ≠ d ∧ t ≠ s) (Nat.le_refl _) rfl rfl rfl (fun b h1 _ => ⟨mvl_sh h1, rfl⟩) (fun b t q h1 h2 => ⟨mvl_keep h1 h2.1 (by simp only [strip, not_beq (fun e => h2.2 e.symm : s ≠ t), cond_false]), rfl⟩)
              (fun s' hs' => getD_set_other (fun e => hs'.1 e.symm)) ⟨fun e => hnd e.symm, fun e => hns e.symm⟩ (fun s' hs' => ⟨fun e => (by subst e; rw [hd2] at hs'; cases hs'), fun e => (by subst e; rw [hd1] at hs'; cases hs')⟩) hh
          cases htv : get σ n with
          | none => trivial
          | av x => rw [htv] at hh; exact key _ rfl rfl hh
          | ref s' =>
            rw [htv] at hh hdep
            simp only [Hold, TV.stale] at hh ⊢
            rw [getD_set_other (fun e => of_not_beq hdep e.symm)]; exact hh
          | rref s' r y' =>
            rw [htv] at hh hdep
            simp only [TV.stale] at hdep ⊢
            cases hb : Nat.beq s' s with
            | true => trivial
            | false => rw [hb] at hdep; exact key _ hb hdep hh
          | ptr s' r c y' =>
            rw [htv] at hh hdep
            simp only [TV.stale] at hdep ⊢
            cases hb : Nat.beq s' s with
            | true =>
              rw [hb] at hdep
              have := Nat.eq_of_beq_eq_true hb
              subst this
              obtain ⟨b, hl, hv, _⟩ := hh
              exact ⟨b, mvl_keep hl hne (by simp [strip, Nat.beq_refl]), hv, fun h => absurd rfl h⟩
            | false => rw [hb] at hdep; exact key _ hb hdep hh
          | fpt s' o y' =>
            rw [htv] at hh hdep
            simp only [TV.stale] at hdep ⊢
            cases hb : Nat.beq s' s with
            | true =>
              rw [hb] at hdep
              have := Nat.eq_of_beq_eq_true hb
              subst this
              obtain ⟨b, hl, hv, _⟩ := hh
              exact ⟨b, mvl_keep hl hne (by simp [strip, Nat.beq_refl]), hv, fun h => absurd rfl h⟩
            | false => rw [hb] at hdep; exact key _ hb hdep hh
          | rptr s' r j y' =>
            rw [htv] at hh hdep
            simp only [TV.stale] at hdep ⊢
            cases hb : Nat.beq s' s with
            | true => trivial
            | false => rw [hb] at hdep; exact key _ hb hdep hh
          | dptr x => rw [htv] at hh; exact key _ rfl rfl hh
          | bdp s' x =>
            rw [htv] at hh hdep
            simp only [TV.stale] at hdep ⊢
            cases hb : Nat.beq s' s with
            | true => trivial
            | false => rw [hb] at hdep; exact key _ hb hdep hh
          | bor s' x =>
            rw [htv] at hh hdep
            simp only [TV.stale] at hdep ⊢
            cases hb : Nat.beq s' s with
            | true => trivial
            | false => rw [hb] at hdep; exact key _ hb hdep hh
          | clo f caps =>
            rw [htv] at hh hdep
            simp only [TV.stale] at hdep ⊢
            simp only [Hold] at hh ⊢
            rw [hh]
            congr 2
            refine List.map_congr_left fun s' hs' => ?_
            rw [getD_set_other]
            intro e
            subst e
            simp only [TV.dep, List.any_eq_false] at hdep
            exact hdep d hs' (Nat.beq_refl d)
  · simp only [get, kill_eq]
    rw [not_beq (show d ≠ n by have := hdN.lt; omega), cond_false]
    by_cases hns : s = n
    · rw [← hns] at hn; exact absurd (own_lt hR h1 (by simp)) (Nat.not_lt.2 hn)
    · rw [not_beq hns, cond_false, hR.out n hn]; rfl
end
end FM

/- An abstract machine over the kit's rules, part 4: lists of operations, code, loops, functions and calls. -/
namespace FM
open Go Go.RowKit

def dstOk (S : Sys) (N : Nat) (l : List Oper) : Bool := l.all fun o => match o.dst with
  | some d => Nat.blt d N && !S.M d
  | none => true
theorem dstOk_cons {S : Sys} {N : Nat} {o : Oper} {l : List Oper} (h : dstOk S N (o :: l) = true) : (∀ d : Nat, o.dst = some d → DOk S N d) ∧ dstOk S N l = true := by
  simp only [dstOk, List.all_cons, Bool.and_eq_true] at h
  refine ⟨fun d hd => ?_, h.2⟩
  have := h.1
  rw [hd] at this
  simp [Nat.blt] at this
  exact ⟨by omega, by simpa using this.2⟩

/-- From a frame that is as told the operations run, and leave a frame of which K holds. -/
def Jseq (S : Sys) (N : Nat) (ops : Array Oper) (l : List Oper) (K : St → Prop) (σ : St) : Prop :=
  dstOk S N l = true → ∀ (w0 : World) (L0 : Nat → Lab) (Q : Exit → Act → World → Prop) (a : Act) (w : World),
    (∀ σ' a' w', K σ' → Rel S w0 L0 N σ' a' w' → Q .normal a' w') → Rel S w0 L0 N σ a w → wpList S.P ops Q l a w
def Jq (S : Sys) (N : Nat) (ops : Array Oper) (l : List Oper) (K : St → Prop) (σ : St) : Prop :=
  dstOk S N l = true → ∀ (w0 : World) (L0 : Nat → Lab) (Q : Act → Prop) (a : Act) (w : World),
    (∀ σ' a', K σ' → Rel S w0 L0 N σ' a' w → Q a') → Rel S w0 L0 N σ a w → wpQuiet S.P ops (Ext w) Q l a
@[irreducible] def J (q : Bool) (S : Sys) (N : Nat) (ops : Array Oper) (l : List Oper) (K : St → Prop) (σ : St) : Prop :=
  match q with
  | true => Jq S N ops l K σ
  | false => Jseq S N ops l K σ

/-- Is the operation carried out? (Told where the guard's value is known.) -/
def live (ops : Array Oper) (g : Option (Nat × Bool)) (σ : St) : Option Bool :=
  match g with
  | none => some true
  | some (j, b) => match (ops[j]?).bind (·.dst) with
    | some t => match get σ t with
      | .av (.bool c) => some (match c, b with | true, true => true | false, false => true | _, _ => false)
      | _ => none
    | none => none

section
variable {S : Sys} {N : Nat} {ops : Array Oper} {l : List Oper} {K : St → Prop} {σ σ' : St} {o : Oper} {q : Bool}

theorem tmps_get {a : Act} {t : Nat} {b : Bool} (h : a.tmps.getD t undef = .bool b) : a.tmps[t]? = some (.bool b) := by
  rw [Array.getD_eq_getD_getElem?] at h
  cases ht : a.tmps[t]? with
  | none => rw [ht] at h; cases h
  | some v => rw [ht] at h; simp at h; rw [h]

theorem live_wanted {b : Bool} (hg : live ops o.guard σ = some b) {w0 : World} {L0 : Nat → Lab} {a : Act} {w : World} (h : Rel S w0 L0 N σ a w) : Region.wanted o (yielded ops a.tmps) = b := by
  obtain ⟨L, h⟩ := h
  unfold live at hg
  unfold Region.wanted
  cases hgd : o.guard with
  | none => rw [hgd] at hg; simp only [Option.some.injEq] at hg; exact hg
  | some jb =>
    obtain ⟨j, c⟩ := jb
    rw [hgd] at hg
    simp only at hg ⊢
    cases ht : (ops[j]?).bind (·.dst) with
    | none => rw [ht] at hg; cases hg
    | some t =>
      rw [ht] at hg
      simp only at hg
      have hbool : ∀ e, get σ t = .av (.bool e) → yielded ops a.tmps j = some e := fun e he => by
        have hh := h.hold t (own_lt h he (by simp))
        rw [he] at hh
        have : a.tmps.getD t undef = .bool e := by generalize a.tmps.getD t undef = v at hh; cases hh; rfl
        simp only [yielded, ht, Option.bind_some, tmps_get this]
      split at hg
      · rename_i e he
        rw [hbool e he]
        revert hg
        cases e <;> cases c <;> simp
      · cases hg

theorem J.nil (h : K σ) : J q S N ops [] K σ := by
  unfold J
  cases q with
  | true => exact fun _ w0 L0 Q a w hQ hR => hQ σ a h hR
  | false => exact fun _ w0 L0 Q a w hQ hR => hQ σ a w h hR

theorem J.step (hg : live ops o.guard σ = some true) (hs : Step S o σ σ') (h : J q S N ops l K σ') : J q S N ops (o :: l) K σ := by
  unfold J at *
  cases q with
  | true =>
    intro hd w0 L0 Q a w hQ hR
    obtain ⟨h1, h2⟩ := dstOk_cons hd
    obtain ⟨v, hv, hR'⟩ := hs w0 L0 N a w h1 hR
    have := h h2 w0 L0 Q (a.put o.dst v) w hQ hR'
    simp only [wpQuiet, live_wanted hg hR, if_true]
    refine ⟨v, fun w' hw' => ?_, this⟩
    unfold Oper.quietAt
    rw [hv w' hw']
    exact ⟨rfl, rfl⟩
  | false =>
    intro hd w0 L0 Q a w hQ hR
    obtain ⟨h1, h2⟩ := dstOk_cons hd
    obtain ⟨v, hv, hR'⟩ := hs w0 L0 N a w h1 hR
    have := h h2 w0 L0 Q (a.put o.dst v) w hQ hR'
    simp only [wpList, live_wanted hg hR, if_true]
    refine .inl ?_
    unfold Oper.wp
    rw [hv w (Ext.refl w)]
    exact this

theorem J.skip {d : Nat} (hg : live ops o.guard σ = some false) (hd : o.dst = some d) (h : J q S N ops l K (σ.put d .none)) : J q S N ops (o :: l) K σ := by
  unfold J at *
  have put : ∀ {w0 : World} {L0 : Nat → Lab} {a : Act} {w : World}, DOk S N d → Rel S w0 L0 N σ a w → Rel S w0 L0 N (σ.put d .none) (a.put o.dst undef) w := fun hlt ⟨L, hR⟩ => ⟨_, by rw [hd]; exact hR.put hlt trivial⟩
  cases q with
  | true =>
    intro hdo w0 L0 Q a w hQ hR
    obtain ⟨h1, h2⟩ := dstOk_cons hdo
    simp only [wpQuiet, live_wanted hg hR, Bool.false_eq_true, if_false]
    exact h h2 w0 L0 Q _ w hQ (put (h1 d hd) hR)
  | false =>
    intro hdo w0 L0 Q a w hQ hR
    obtain ⟨h1, h2⟩ := dstOk_cons hdo
    simp only [wpList, live_wanted hg hR, Bool.false_eq_true, if_false]
    exact h h2 w0 L0 Q _ w hQ (put (h1 d hd) hR)

/-- The ways part at a Bool that guards. -/
theorem J.split {t : Nat} {b : Bool} (ht : get σ t = .av (.bool b)) (h1 : b = true → ∀ σ' : St, σ' = σ.upd true t (.av (.bool true)) → J q S N ops (o :: l) K σ') (h2 : b = false → ∀ σ' : St, σ' = σ.upd true t (.av (.bool false)) → J q S N ops (o :: l) K σ') : J q S N ops (o :: l) K σ := by
  have know : ∀ {w0 : World} {L0 : Nat → Lab} {a : Act} {w : World} (c : Bool), b = c → Rel S w0 L0 N σ a w → Rel S w0 L0 N (σ.upd true t (.av (.bool c))) a w := by
    intro w0 L0 a w c hc ⟨L, hR⟩
    refine ⟨L, hR.defers, hR.size, hR.keep, hR.lok, fun n hn => ?_, fun n hn => ?_, hR.fix, hR.glob⟩
    · simp only [get]
      by_cases htn : t = n
      · subst htn
        rw [Nat.beq_refl, cond_true, ← hc, ← ht]
        exact hR.hold t hn
      · rw [not_beq htn, cond_false]
        have hh := hR.hold n hn
        generalize hg : get σ n = tv at hh
        cases tv <;> simp only [TV.stale] <;> first
          | exact hh
          | trivial
          | (rename_i s _; cases hs : Nat.beq s t with
              | true => trivial
              | false => exact hh)
          | (rename_i s _ _; cases hs : Nat.beq s t with
              | true =>
                first
                  | (obtain ⟨b', h1, h2, _⟩ := hh; exact ⟨b', h1, h2, fun h => absurd rfl h⟩)
              | false => exact hh)
          | (rename_i s _ _ _; cases hs : Nat.beq s t with
              | true =>
                obtain ⟨b', h1, h2, _⟩ := hh; exact ⟨b', h1, h2, fun h => absurd rfl h⟩
              | false => exact hh)
    · simp only [get]
      by_cases htn : t = n
      · have := own_lt hR ht (by simp); omega
      · rw [not_beq htn, cond_false, hR.out n hn]; rfl
  unfold J at *
  cases q with
  | true =>
    intro hd w0 L0 Q a w hQ hR
    cases hb : b with
    | true => exact h1 hb _ rfl hd w0 L0 Q a w hQ (know true hb hR)
    | false => exact h2 hb _ rfl hd w0 L0 Q a w hQ (know false hb hR)
  | false =>
    intro hd w0 L0 Q a w hQ hR
    cases hb : b with
    | true => exact h1 hb _ rfl hd w0 L0 Q a w hQ (know true hb hR)
    | false => exact h2 hb _ rfl hd w0 L0 Q a w hQ (know false hb hR)
end

/-! ### code -/
@[irreducible] def CW (S : Sys) (N : Nat) (c : Code) (Q : Exit → St → Prop) (σ : St) : Prop :=
  ∀ (w0 : World) (L0 : Nat → Lab) (Q' : Exit → Act → World → Prop) (a : Act) (w : World),
    (∀ e σ' a' w', Q e σ' → Rel S w0 L0 N σ' a' w' → Q' e a' w') → Rel S w0 L0 N σ a w → c.wp S.P Q' a w

def thenQ (K : St → Prop) (Q : Exit → St → Prop) : Exit → St → Prop
  | .normal, σ => K σ
  | e, σ => Q e σ
def blockQ (id : Nat) (Q : Exit → St → Prop) : Exit → St → Prop
  | .exit i, σ => bif Nat.beq i id then Q .normal σ else Q (.exit i) σ
  | e, σ => Q e σ

section
variable {S : Sys} {N : Nat} {Q : Exit → St → Prop} {σ : St}

theorem CW.seq {x y : Code} (h : CW S N x (thenQ (CW S N y Q) Q) σ) : CW S N (.seq x y) Q σ := by
  unfold CW at h ⊢
  intro w0 L0 Q' a w hQ hR
  refine wp_seq (h w0 L0 _ a w (fun e σ' a' w' he hR' => ?_) hR)
  cases e <;> simp only [thenQ] at he <;> simp only [Exit.then]
  case normal => exact he w0 L0 Q' a' w' hQ hR'
  all_goals exact hQ _ σ' a' w' he hR'
theorem CW.skip (h : Q .normal σ) : CW S N .skip Q σ := by
  unfold CW
  exact fun w0 L0 Q' a w hQ hR => wp_skip (hQ _ _ _ _ h hR)
theorem CW.ret (h : Q .ret σ) : CW S N .ret Q σ := by
  unfold CW
  exact fun w0 L0 Q' a w hQ hR => wp_ret (hQ _ _ _ _ h hR)
theorem CW.exit {id : Nat} (h : Q (.exit id) σ) : CW S N (.exit id) Q σ := by
  unfold CW
  exact fun w0 L0 Q' a w hQ hR => wp_exit (hQ _ _ _ _ h hR)
theorem CW.block {id : Nat} {c : Code} (h : CW S N c (blockQ id Q) σ) : CW S N (.block id c) Q σ := by
  unfold CW at *
  intro w0 L0 Q' a w hQ hR
  refine wp_block (h w0 L0 _ a w (fun e σ' a' w' he hR' => ?_) hR)
  cases e <;> simp only [blockQ] at he <;> simp only [Exit.inBlock]
  case exit i =>
    cases hi : Nat.beq i id with
    | true => rw [hi, cond_true] at he; rw [if_pos (Nat.eq_of_beq_eq_true hi)]; exact hQ _ _ _ _ he hR'
    | false => rw [hi, cond_false] at he; rw [if_neg (of_not_beq hi)]; exact hQ _ _ _ _ he hR'
  all_goals exact hQ _ _ _ _ he hR'

theorem eval_bool {t : Operand} {b : Bool} (ht : ov σ t = .av (.bool b)) {w0 : World} {L0 : Nat → Lab} {a : Act} {w : World} (hR : Rel S w0 L0 N σ a w) : a.eval t = .bool b := by
  obtain ⟨L, hR⟩ := hR
  exact ev_bool hR ht
theorem CW.condT {t : Operand} {x y : Code} (ht : ov σ t = .av (.bool true)) (h : CW S N x Q σ) : CW S N (.cond t x y) Q σ := by
  unfold CW at *
  exact fun w0 L0 Q' a w hQ hR => wp_cond_true (eval_bool ht hR) (h w0 L0 Q' a w hQ hR)
theorem CW.condF {t : Operand} {x y : Code} (ht : ov σ t = .av (.bool false)) (h : CW S N y Q σ) : CW S N (.cond t x y) Q σ := by
  unfold CW at *
  exact fun w0 L0 Q' a w hQ hR => wp_cond_false (eval_bool ht hR) (h w0 L0 Q' a w hQ hR)
theorem CW.cond {t : Operand} {x y : Code} {b : Bool} (ht : ov σ t = .av (.bool b)) (h1 : b = true → CW S N x Q σ) (h2 : b = false → CW S N y Q σ) : CW S N (.cond t x y) Q σ := by
  cases b with
  | true => exact .condT ht (h1 rfl)
  | false => exact .condF ht (h2 rfl)
theorem CW.condD {t : Operand} {x y : Code} {p : Prop} {inst : Decidable p} (ht : ov σ t = .av (.bool (decide p))) (h1 : p → CW S N x Q σ) (h2 : ¬ p → CW S N y Q σ) : CW S N (.cond t x y) Q σ :=
  .cond ht (fun h => h1 (of_decide_eq_true h)) (fun h => h2 (of_decide_eq_false h))
theorem J.splitD {q : Bool} {ops : Array Oper} {l : List Oper} {K : St → Prop} {o : Oper} {t : Nat} {p : Prop} {inst : Decidable p} (ht : get σ t = .av (.bool (decide p))) (h1 : p → ∀ σ' : St, σ' = σ.upd true t (.av (.bool true)) → J q S N ops (o :: l) K σ')
    (h2 : ¬ p → ∀ σ' : St, σ' = σ.upd true t (.av (.bool false)) → J q S N ops (o :: l) K σ') : J q S N ops (o :: l) K σ :=
  .split ht (fun h => h1 (of_decide_eq_true h)) (fun h => h2 (of_decide_eq_false h))

theorem CW.reg {id : Nat} {l : List Oper} (hd : dstOk S N l = true) (h : J false S N l.toArray l (Q .normal) σ) : CW S N (.region id l.toArray false) Q σ := by
  unfold CW
  unfold J at h
  exact fun w0 L0 Q' a w hQ hR => wp_region_lit (h hd w0 L0 Q' a w (fun σ' a' w' hK hR' => hQ _ _ _ _ hK hR') hR)
/-- A region that draws its order, all of whose operations read or compute. -/
theorem CW.regQ {id : Nat} {l : List Oper} (hB : Region.lexB .any l.toArray = true) (hd : dstOk S N l = true) (h : J true S N l.toArray l (Q .normal) σ) : CW S N (.region id l.toArray true) Q σ := by
  unfold CW
  unfold J at h
  intro w0 L0 Q' a w hQ hR
  refine wp_region_quiet (C := Ext w) S.mixed hB ⟨rfl, rfl, rfl, Nat.le_refl _, fun _ _ => rfl⟩ ?_
  exact h hd w0 L0 _ a w (fun σ' a' hK hR' w' hw' => hQ _ _ _ _ hK (hR'.ext hw')) hR

/-- Does the frame hold what is listed? -/
def Has (σ : St) : List (Nat × TV) → Prop
  | [] => True
  | (n, tv) :: r => get σ n = tv ∧ Has σ r
def ofL : List (Nat × TV) → St
  | [] => .nil
  | (n, tv) :: r => .put n tv (ofL r)
theorem Rel.weaken {σ' : St} (hw : ∀ n, get σ' n = get σ n ∨ get σ' n = .none) {w0 : World} {L0 : Nat → Lab} {a : Act} {w : World} (h : Rel S w0 L0 N σ a w) : Rel S w0 L0 N σ' a w := by
  obtain ⟨L, hR⟩ := h
  refine ⟨L, hR.defers, hR.size, hR.keep, hR.lok, fun n hn => ?_, fun n hn => ?_, hR.fix, hR.glob⟩
  · rcases hw n with h | h
    · rw [h]; exact hR.hold n hn
    · rw [h]; trivial
  · rcases hw n with h | h
    · rw [h]; exact hR.out n hn
    · exact h
/-- No word of a list hangs on a slot of the list (but by its own order), so that the list reads as typed. -/
theorem CW.weaken {c : Code} {σ' : St} (hw : ∀ n, get σ' n = get σ n ∨ get σ' n = .none) (h : CW S N c Q σ') : CW S N c Q σ := by
  unfold CW at *
  intro w0 L0 Q' a w hQ ⟨L, hR⟩
  refine h w0 L0 Q' a w hQ ⟨L, hR.defers, hR.size, hR.keep, hR.lok, fun n hn => ?_, fun n hn => ?_, hR.fix, hR.glob⟩
  · rcases hw n with h | h
    · rw [h]; exact hR.hold n hn
    · rw [h]; trivial
  · rcases hw n with h | h
    · rw [h]; exact hR.out n hn
    · exact h
theorem has_weaken : ∀ {I : List (Nat × TV)}, Has σ I → ∀ n, get (ofL I) n = get σ n ∨ get (ofL I) n = .none
  | [], _, n => .inr rfl
  | (m, tv) :: r, h, n => by
    simp only [ofL, get, kill_eq]
    by_cases hmn : m = n
    · subst hmn; rw [Nat.beq_refl, cond_true]; exact .inl h.1.symm
    · rw [not_beq hmn, cond_false]
      cases hd : (get (ofL r) n).dep m with
      | true => exact .inr rfl
      | false => rw [cond_false]; exact has_weaken h.2 n
theorem CW.has {c : Code} (I : List (Nat × TV)) (hI : Has σ I) (h : CW S N c Q (ofL I)) : CW S N c Q σ := .weaken (has_weaken hI) h

theorem CW.mono {c : Code} {Q' : Exit → St → Prop} (h : CW S N c Q σ) (hq : ∀ e σ', Q e σ' → Q' e σ') : CW S N c Q' σ := by
  unfold CW at *
  exact fun w0 L0 Q'' a w hQ hR => h w0 L0 Q'' a w (fun e σ' a' w' he => hQ e σ' a' w' (hq e σ' he)) hR

/-- A loop: what the frame holds at each round's head is told by an index, whose measure goes down. -/
theorem CW.loop {ι : Type} (I : ι → List (Nat × TV)) (pre : ι → Prop) (μ : ι → Nat) {c : Code} (i0 : ι) (hp : pre i0) (h0 : Has σ (I i0))
    (round : ∀ i, pre i → CW S N c (thenQ (fun σ' => ∃ j, pre j ∧ μ j < μ i ∧ Has σ' (I j)) Q) (ofL (I i))) : CW S N (.loop c) Q σ := by
  unfold CW at *
  intro w0 L0 Q' a w hQ hR
  have weak : ∀ {σ : St} {J : List (Nat × TV)} {a : Act} {w : World}, Has σ J → Rel S w0 L0 N σ a w → Rel S w0 L0 N (ofL J) a w := fun {σ J a w} hJ ⟨L, hR⟩ =>
    ⟨L, hR.defers, hR.size, hR.keep, hR.lok, fun n hn => by
      rcases has_weaken hJ n with h | h
      · rw [h]; exact hR.hold n hn
      · rw [h]; trivial, fun n hn => by
      rcases has_weaken hJ n with h | h
      · rw [h]; exact hR.out n hn
      · exact h, hR.fix, hR.glob⟩
  intro b k cs
  have key : ∀ n i, μ i = n → pre i → ∀ a w, Rel S w0 L0 N (ofL (I i)) a w →
      ∃ e a' w', Q' e a' w' ∧ Arrives S.P (lone (b.at a (.code c :: .inLoop c :: k)) cs w) b k cs e a' w' := by
    intro n
    induction n using Nat.strongRecOn with
    | _ n ih =>
      intro i hi hpre a w hR
      obtain ⟨e, a', w', hq, harr⟩ := round i hpre w0 L0 (fun e a' w' => match e with
        | .normal => ∃ j, pre j ∧ μ j < μ i ∧ Rel S w0 L0 N (ofL (I j)) a' w'
        | e => Q' e a' w') a w (fun e σ' a' w' he hR' => by
        cases e <;> simp only [thenQ] at he
        case normal =>
          obtain ⟨j, hj, hlt, hhas⟩ := he
          exact ⟨j, hj, hlt, weak hhas hR'⟩
        all_goals exact hQ _ _ _ _ he hR') hR b (.inLoop c :: k) cs
      cases e with
      | normal =>
        obtain ⟨j, hj, hlt, hR'⟩ := hq
        obtain ⟨e2, a2, w2, hq2, harr2⟩ := ih (μ j) (hi ▸ hlt) j rfl hj a' w' hR'
        exact ⟨e2, a2, w2, hq2, .of_steps (Steps.trans harr (.one step_inLoop)) harr2⟩
      | exit id => exact ⟨_, a', w', hq, .pass (x := .inLoop c) rfl (fun _ _ => .inl (by simp)) harr⟩
      | goto l => exact ⟨_, a', w', hq, .pass (x := .inLoop c) rfl (fun _ _ => .inl (by simp)) harr⟩
      | ret => exact ⟨_, a', w', hq, .pass (x := .inLoop c) rfl (fun _ _ => .inl (by simp)) harr⟩
      | panic ch => exact ⟨_, a', w', hq, .pass (x := .inLoop c) rfl (fun _ _ => .inl (by simp)) harr⟩
      | outgrown => exact ⟨_, a', w', hq, .pass (x := .inLoop c) rfl (fun _ _ => .inl (by simp)) harr⟩
  obtain ⟨e, a', w', hq, harr⟩ := key _ i0 rfl hp a w (weak h0 hR)
  exact ⟨e, a', w', hq, .of_steps (.one step_loop) harr⟩
end
end FM
