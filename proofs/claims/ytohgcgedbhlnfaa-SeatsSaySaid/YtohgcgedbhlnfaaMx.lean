/- The least and the greatest of a row. -/
import Derived.Test.YtohgcgedbhlnfaaCl
namespace Go.Proofs.Ytohgcgedbhlnfaa
open Go FM
set_option maxRecDepth 10000
set_option maxHeartbeats 1600000
set_option linter.all false
def lmax (d : Int) (l : List Int) : Int := l.foldl max d
def lmin (d : Int) (l : List Int) : Int := l.foldl min d
theorem lmax_cons (d x : Int) (l : List Int) : lmax d (x :: l) = lmax (max d x) l := rfl
theorem lmin_cons (d x : Int) (l : List Int) : lmin d (x :: l) = lmin (min d x) l := rfl
theorem lmax_append (d x : Int) (l : List Int) : lmax d (l ++ [x]) = max (lmax d l) x := by unfold lmax; rw [List.foldl_append]; rfl
theorem lmin_append (d x : Int) (l : List Int) : lmin d (l ++ [x]) = min (lmin d l) x := by unfold lmin; rw [List.foldl_append]; rfl
theorem lmax_take {d : Int} {l : List Int} {k : Nat} (h : k < l.length) : lmax d (l.take (k + 1)) = max (lmax d (l.take k)) l[k] := by
  rw [List.take_succ_eq_append_getElem h, lmax_append]
theorem lmin_take {d : Int} {l : List Int} {k : Nat} (h : k < l.length) : lmin d (l.take (k + 1)) = min (lmin d (l.take k)) l[k] := by
  rw [List.take_succ_eq_append_getElem h, lmin_append]
theorem lmax_spec : ∀ (l : List Int) (d : Int), d ≤ lmax d l ∧ (∀ y ∈ l, y ≤ lmax d l) ∧ (lmax d l = d ∨ lmax d l ∈ l)
  | [], d => ⟨Int.le_refl _, fun y hy => (by cases hy), .inl rfl⟩
  | x :: l, d => by
    obtain ⟨h1, h2, h3⟩ := lmax_spec l (max d x)
    rw [lmax_cons]
    refine ⟨by omega, fun y hy => ?_, ?_⟩
    · rcases List.mem_cons.1 hy with rfl | hy
      · omega
      · exact h2 y hy
    · rcases h3 with h3 | h3
      · by_cases c : d ≤ x
        · right; rw [h3, show max d x = x by omega]; exact List.mem_cons_self ..
        · left; omega
      · right; exact List.mem_cons_of_mem _ h3
theorem lmin_spec : ∀ (l : List Int) (d : Int), lmin d l ≤ d ∧ (∀ y ∈ l, lmin d l ≤ y) ∧ (lmin d l = d ∨ lmin d l ∈ l)
  | [], d => ⟨Int.le_refl _, fun y hy => (by cases hy), .inl rfl⟩
  | x :: l, d => by
    obtain ⟨h1, h2, h3⟩ := lmin_spec l (min d x)
    rw [lmin_cons]
    refine ⟨by omega, fun y hy => ?_, ?_⟩
    · rcases List.mem_cons.1 hy with rfl | hy
      · omega
      · exact h2 y hy
    · rcases h3 with h3 | h3
      · by_cases c : x ≤ d
        · right; rw [h3, show min d x = x by omega]; exact List.mem_cons_self ..
        · left; omega
      · right; exact List.mem_cons_of_mem _ h3
/-- The greatest of a row that isn't empty. -/
def gmax (l : List Int) : Int := lmax (l.getD 0 0) l
def gmin (l : List Int) : Int := lmin (l.getD 0 0) l
theorem getD0_mem {l : List Int} (h : l ≠ []) : l.getD 0 0 ∈ l := by
  cases l with
  | nil => exact absurd rfl h
  | cons x l => exact List.mem_cons_self ..
theorem gmax_spec {l : List Int} (h : l ≠ []) : gmax l ∈ l ∧ ∀ y ∈ l, y ≤ gmax l := by
  obtain ⟨h1, h2, h3⟩ := lmax_spec l (l.getD 0 0)
  refine ⟨?_, h2⟩
  rcases h3 with h3 | h3
  · unfold gmax; rw [h3]; exact getD0_mem h
  · exact h3
theorem gmin_spec {l : List Int} (h : l ≠ []) : gmin l ∈ l ∧ ∀ y ∈ l, gmin l ≤ y := by
  obtain ⟨h1, h2, h3⟩ := lmin_spec l (l.getD 0 0)
  refine ⟨?_, h2⟩
  rcases h3 with h3 | h3
  · unfold gmin; rw [h3]; exact getD0_mem h
  · exact h3
theorem lmax_gmax {l : List Int} {d : Int} (h : l ≠ []) (hd : ∀ y ∈ l, d ≤ y) : lmax d l = gmax l := by
  obtain ⟨h1, h2, h3⟩ := lmax_spec l d
  obtain ⟨g1, g2⟩ := gmax_spec h
  have a := h2 _ g1
  have b := hd _ g1
  rcases h3 with h3 | h3
  · omega
  · have := g2 _ h3; omega
theorem lmin_gmin {l : List Int} {d : Int} (h : l ≠ []) (hd : ∀ y ∈ l, y ≤ d) : lmin d l = gmin l := by
  obtain ⟨h1, h2, h3⟩ := lmin_spec l d
  obtain ⟨g1, g2⟩ := gmin_spec h
  have a := h2 _ g1
  have b := hd _ g1
  rcases h3 with h3 | h3
  · omega
  · have := g2 _ h3; omega
theorem eq_gmax {l : List Int} {x : Int} (hx : x ∈ l) : x = gmax l ↔ ∀ y ∈ l, y ≤ x := by
  obtain ⟨g1, g2⟩ := gmax_spec (List.ne_nil_of_mem hx)
  constructor
  · intro e; rw [e]; exact g2
  · intro e; have := e _ g1; have := g2 _ hx; omega
theorem eq_gmin {l : List Int} {x : Int} (hx : x ∈ l) : x = gmin l ↔ ∀ y ∈ l, x ≤ y := by
  obtain ⟨g1, g2⟩ := gmin_spec (List.ne_nil_of_mem hx)
  constructor
  · intro e; rw [e]; exact g2
  · intro e; have := e _ g1; have := g2 _ hx; omega
theorem Max_spec (l : List Int) (h1 : 1 ≤ l.length) (hl : l.length ≤ 9223372036854775806) : FnSpec Sy.P 61 [.sl false 1 ((l).map .int)] [.sl false 1 ((l).map .int)] (.int (gmax l)) := by
  have h0 : l[0]? = some (l.getD 0 0) := by rw [List.getD_eq_getElem?_getD, List.getElem?_eq_getElem (by omega)]; rfl
  unfold gmax
  have ht : lmax (l.getD 0 0) (l.take 1) = l.getD 0 0 := by
    rw [lmax_take (by omega)]
    have : l[0]'(by omega) = l.getD 0 0 := by rw [List.getElem?_eq_getElem (by omega)] at h0; exact Option.some.inj h0
    rw [this]; simp [lmax]
  generalize l.getD 0 0 = x0 at *
  refine FnSpec.enter (S := Sy) 0 Try.func61 rfl rfl rfl Try.ntmps61 rfl rfl rfl rfl fun v0 => ?_
  (repeat' (first | refine w9x ?_ | (refine w9c ?_ ?_ <;> intro _ <;> try exact w9o) | (refine w9d ?_ ?_ <;> intro _ <;> try exact w9s) | (refine w9q ?_; intro bnil hbnil)))
  refine CW.loop (fun k : Nat => [(0, .av (.sl false 1 ((l).map .int))), (3, .av (.int (lmax x0 (l.take k)))), (4, .av (.int (k)))]) (fun k => 1 ≤ k ∧ k ≤ l.length) (fun k => l.length - k) (1) ?_ (by (repeat' (first | exact trivial | rfl | refine And.intro ?_ ?_ | exact int_congr (by omega) | exact int_congr (by dsimp only; omega) | exact ints_congr (by first | assumption | exact Eq.symm (by assumption)) | exact int_congr (by assumption) | exact bool_congr (by first | assumption | exact Eq.symm (by assumption)) | exact map_congr' (by first | assumption | exact Eq.symm (by assumption)) | exact int_congr ht.symm))) ?_
  · exact ⟨Nat.le_refl _, h1⟩
  intro k ⟨hk1, hk⟩
  by_cases hlt : k < l.length
  · have hx : l[k]? = some l[k] := List.getElem?_eq_getElem hlt
    have hm := lmax_take (d := x0) hlt
    generalize l[k] = x at *
    (repeat' (first | refine w9x ?_ | (refine w9c ?_ ?_ <;> intro _ <;> try exact w9o) | (refine w9d ?_ ?_ <;> intro _ <;> try exact w9s) | (refine w9q ?_; intro bnil hbnil)))
    refine ⟨k+1, ?_, by first | omega | (simp only; omega), by exact w9a⟩
    omega
  · obtain rfl : k = l.length := by omega
    rw [List.take_length]
    (repeat' (first | refine w9x ?_ | (refine w9c ?_ ?_ <;> intro _ <;> try exact w9o) | (refine w9d ?_ ?_ <;> intro _ <;> try exact w9s) | (refine w9q ?_; intro bnil hbnil)))
    exact .mk rfl rfl rfl
theorem Min_spec (l : List Int) (h1 : 1 ≤ l.length) (hl : l.length ≤ 9223372036854775806) : FnSpec Sy.P 109 [.sl false 1 ((l).map .int)] [.sl false 1 ((l).map .int)] (.int (gmin l)) := by
  have h0 : l[0]? = some (l.getD 0 0) := by rw [List.getD_eq_getElem?_getD, List.getElem?_eq_getElem (by omega)]; rfl
  unfold gmin
  have ht : lmin (l.getD 0 0) (l.take 1) = l.getD 0 0 := by
    rw [lmin_take (by omega)]
    have : l[0]'(by omega) = l.getD 0 0 := by rw [List.getElem?_eq_getElem (by omega)] at h0; exact Option.some.inj h0
    rw [this]; simp [lmin]
  generalize l.getD 0 0 = x0 at *
  refine FnSpec.enter (S := Sy) 0 Try.func109 rfl rfl rfl Try.ntmps109 rfl rfl rfl rfl fun v0 => ?_
  (repeat' (first | refine w9x ?_ | (refine w9c ?_ ?_ <;> intro _ <;> try exact w9o) | (refine w9d ?_ ?_ <;> intro _ <;> try exact w9s) | (refine w9q ?_; intro bnil hbnil)))
  refine CW.loop (fun k : Nat => [(0, .av (.sl false 1 ((l).map .int))), (3, .av (.int (lmin x0 (l.take k)))), (4, .av (.int (k)))]) (fun k => 1 ≤ k ∧ k ≤ l.length) (fun k => l.length - k) (1) ?_ (by (repeat' (first | exact trivial | rfl | refine And.intro ?_ ?_ | exact int_congr (by omega) | exact int_congr (by dsimp only; omega) | exact ints_congr (by first | assumption | exact Eq.symm (by assumption)) | exact int_congr (by assumption) | exact bool_congr (by first | assumption | exact Eq.symm (by assumption)) | exact map_congr' (by first | assumption | exact Eq.symm (by assumption)) | exact int_congr ht.symm))) ?_
  · exact ⟨Nat.le_refl _, h1⟩
  intro k ⟨hk1, hk⟩
  by_cases hlt : k < l.length
  · have hx : l[k]? = some l[k] := List.getElem?_eq_getElem hlt
    have hm := lmin_take (d := x0) hlt
    generalize l[k] = x at *
    (repeat' (first | refine w9x ?_ | (refine w9c ?_ ?_ <;> intro _ <;> try exact w9o) | (refine w9d ?_ ?_ <;> intro _ <;> try exact w9s) | (refine w9q ?_; intro bnil hbnil)))
    refine ⟨k+1, ?_, by first | omega | (simp only; omega), by exact w9a⟩
    omega
  · obtain rfl : k = l.length := by omega
    rw [List.take_length]
    (repeat' (first | refine w9x ?_ | (refine w9c ?_ ?_ <;> intro _ <;> try exact w9o) | (refine w9d ?_ ?_ <;> intro _ <;> try exact w9s) | (refine w9q ?_; intro bnil hbnil)))
    exact .mk rfl rfl rfl
end Go.Proofs.Ytohgcgedbhlnfaa
