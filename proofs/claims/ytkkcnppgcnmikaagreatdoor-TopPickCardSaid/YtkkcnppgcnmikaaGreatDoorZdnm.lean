/- What a house keeps: its records, written. -/
import Derived.Test.YtkkcnppgcnmikaaGreatDoorZanm
import Derived.Test.YtkkcnppgcnmikaaGreatDoorZpnm
import Derived.Test.YtkkcnppgcnmikaaGreatDoorHhnm
import Derived.Test.YtkkcnppgcnmikaaGreatDoorHcnm
import Derived.Test.YtkkcnppgcnmikaaGreatDoorFsnm
import Derived.Laws.IdiomCopy
import Derived.Lib.Overlaps
import Derived.Lib.AppendZerosOnto
import Derived.Deep.RegionLaw
import Derived.Lib.SliceRun
import Derived.Shelf.Spec.SlicesInsert
import Derived.Laws.NewBlocks
import Derived.Test.YtkkcnppgcnmikaaGreatDoorHjnm
import Derived.Test.YtkkcnppgcnmikaaGreatDoorHknm
namespace Go.Proofs.YtkkcnppgcnmikaaGreatDoor
open Go FM Go.Proofs
set_option maxRecDepth 10000
set_option maxHeartbeats 1600000
set_option linter.all false
theorem nm_len {s : Str} (h : nmB s = true) : 0 < s.length ∧ s.length ≤ 8 := by
  unfold nmB at h
  simp only [Bool.and_eq_true, decide_eq_true_eq] at h
  exact h.1
def dnums (d : Dl) : List Int := [d.2.2.1, d.2.2.2.1, d.2.2.2.2.1, d.2.2.2.2.2.1]
def recK (d : Dl) : Nat → Str
  | 0 => [100, 32] ++ d.1 ++ [32] ++ d.2.1
  | k + 1 => recK d k ++ ([32] ++ Lib.itoa ((dnums d).getD k 0))
/-- What is kept of a deal, and of an account. -/
def recD (d : Dl) (w : Str) : Str := recK d 4 ++ [32] ++ w
def recO (s : Str) (m : Int) : Str := [111, 32] ++ s ++ [32] ++ Lib.itoa m
theorem dnums_ok {d : Dl} (h : DlOk d) : ∀ n ∈ dnums d, 0 ≤ n ∧ n ≤ 1000000 := by
  intro n hn
  have h1 := h.num; have h2 := h.much; have h3 := h.fee; have h4 := h.size
  simp only [dnums, List.mem_cons, List.not_mem_nil, or_false] at hn
  rcases hn with rfl | rfl | rfl | rfl <;> omega
theorem recK_len {d : Dl} (h : DlOk d) : ∀ k, k ≤ 4 → (recK d k).length ≤ 19 + 8 * k
  | 0, _ => by
    have h1 := nm_len h.f
    have h2 := nm_len h.t
    simp only [recK, List.length_append, List.length_cons, List.length_nil] at *
    omega
  | k + 1, hk => by
    have ih := recK_len h k (by omega)
    have hg : (dnums d)[k]? = some (dnums d)[k] := List.getElem?_eq_getElem (by simp [dnums]; omega)
    have hn := dnums_ok h _ (List.mem_of_getElem? hg)
    have := Zp.itoa_len _ hn.1 hn.2
    simp only [recK, List.getD_eq_getElem?_getD, hg, Option.getD_some, List.length_append, List.length_cons, List.length_nil] at *
    omega
theorem recD_len {d : Dl} {w : Str} (h : DlOk d) (hw : w.length ≤ 8) : (recD d w).length ≤ 60 := by
  have := recK_len h 4 (by omega)
  unfold recD
  simp only [List.length_append, List.length_cons, List.length_nil]
  omega
theorem recK_succ {d : Dl} {k : Nat} {n : Int} (h : (dnums d)[k]? = some n) : recK d (k + 1) = recK d k ++ ([32] ++ Lib.itoa n) := by
  rw [recK, List.getD_eq_getElem?_getD, h]; rfl
theorem deal_spec (d : Dl) (w : Str) (hd : DlOk d) (hw : w.length ≤ 8) : FnSpec Sy.P 69 [dlA d, .str w] [dlA d, .str w] (.str (recD d w)) := by
  have h1 := nm_len hd.f
  have h2 := nm_len hd.t
  refine FnSpec.enter (S := Sy) 0 Tryz.func69 rfl rfl rfl Tryz.ntmps69 rfl rfl rfl rfl fun v0 => ?_
  (repeat' (first | refine w9x ?_ | (refine w9c ?_ ?_ <;> intro _ <;> try exact w9o) | (refine w9d ?_ ?_ <;> intro _ <;> try exact w9s) | (refine w9q ?_; intro bnil hbnil)))
  refine CW.loop (fun k : Nat => [(1, .av (.str w)), (5, .av (.str (recK d k))), (23, .av (.sl true 1 ((dnums d).map .int))), (24, .av (.int (4))), (25, .av (.int (k)))]) (fun k => k ≤ 4) (fun k => 4 - k) (0) ?_ (by exact w9a) ?_
  · exact Nat.zero_le _
  intro k hk
  have hl := recK_len hd k hk
  by_cases hlt : k < 4
  · have hg : (dnums d)[k]? = some (dnums d)[k] := List.getElem?_eq_getElem hlt
    have hs := recK_succ hg
    have hn := dnums_ok hd _ (List.mem_of_getElem? hg)
    have hdl : (dnums d).length = 4 := rfl
    generalize (dnums d)[k] = n at *
    have hI := itoa_spec n (by omega) (by omega)
    have hil := Zp.itoa_len n hn.1 hn.2
    generalize recK d k = r at *
    generalize Lib.itoa n = z at *
    generalize dnums d = ds at *
    (repeat' (first | refine w9x ?_ | refine w9p (hI) ?_ | (refine w9c ?_ ?_ <;> intro _ <;> try exact w9o) | (refine w9d ?_ ?_ <;> intro _ <;> try exact w9s) | (refine w9q ?_; intro bnil hbnil)))
    all_goals first | (exfalso; omega) | skip
    refine ⟨k+1, ?_, by first | omega | (simp only; omega), by (repeat' (first | exact trivial | rfl | refine And.intro ?_ ?_ | exact int_congr (by omega) | exact int_congr (by dsimp only; omega) | exact ints_congr (by first | assumption | exact Eq.symm (by assumption)) | exact int_congr (by assumption) | exact bool_congr (by first | assumption | exact Eq.symm (by assumption)) | exact map_congr' (by first | assumption | exact Eq.symm (by assumption)) | (rw [hs])))⟩
    exact hlt
  · obtain rfl : k = 4 := by omega
    have e : recD d w = recK d 4 ++ [32] ++ w := rfl
    rw [e]
    generalize recK d 4 = r at *
    generalize dnums d = ds at *
    (repeat' (first | refine w9x ?_ | (refine w9c ?_ ?_ <;> intro _ <;> try exact w9o) | (refine w9d ?_ ?_ <;> intro _ <;> try exact w9s) | (refine w9q ?_; intro bnil hbnil)))
    all_goals first | (exfalso; omega) | exact .mk rfl rfl rfl
end Go.Proofs.YtkkcnppgcnmikaaGreatDoor

/- A house: what its records tell, read. -/
namespace Go.Proofs.YtkkcnppgcnmikaaGreatDoor
open Go FM Go.Proofs
set_option maxRecDepth 10000
set_option maxHeartbeats 3200000
set_option linter.all false
def ifA (e : Int) (l : List Ac) : List Ac := if e = 0 then l else []
theorem resA_le {l : List Ac} {e : Int} : AV.le (resA l e) (.tup [.sl true 3 ((ifA e l).map acA), .int e]) := by
  unfold resA ifA
  by_cases c : e = 0
  · rw [if_pos c, if_pos c, c]; exact .refl _
  · rw [if_neg c, if_neg c]; exact le_tup2 .nil (.refl _)
/-- A record. -/
inductive Rc where
  | o (s : Str) (m : Int)
  | d (x : Dl) (w : Str)
def Rc.str : Rc → Str
  | .o s m => recO s m
  | .d x w => recD x w
def Rc.ok : Rc → Prop
  | .o s m => nmB s = true ∧ 0 ≤ m ∧ m ≤ 1000000
  | .d x w => DlOk x ∧ nmB w = true
theorem str_len {r : Rc} (h : r.ok) : r.str.length ≤ 64 := by
  cases r with
  | o s m =>
    have h1 := nm_len h.1
    have h2 := Zp.itoa_len m h.2.1 h.2.2
    show (recO s m).length ≤ 64
    unfold recO
    simp only [List.length_append, List.length_cons, List.length_nil]; omega
  | d x w => have := recD_len h.1 (nm_len h.2).2; show (recD x w).length ≤ 64; omega
end Go.Proofs.YtkkcnppgcnmikaaGreatDoor
