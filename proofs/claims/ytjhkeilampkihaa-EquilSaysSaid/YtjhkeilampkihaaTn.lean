/- Tables: turned, row by row. -/
import Derived.Test.YtjhkeilampkihaaSb
namespace Go.Proofs.Ytjhkeilampkihaa
open Go FM
set_option maxRecDepth 10000
set_option maxHeartbeats 1600000
set_option linter.all false
/-- Rows 0 .. k-1 are done, and i of row k. -/
def trn (h : Nat → List Int) (g k i : Nat) : List (List Int) := tb g fun a => if a < k then h a else if a = k then (h a).take i else []
theorem trn_length {h : Nat → List Int} {g k i : Nat} : (trn h g k i).length = g := tb_length
theorem trn_get {h : Nat → List Int} {g k i : Nat} (hk : k < g) : (trn h g k i)[k]? = some ((h k).take i) := by
  unfold trn; rw [tb_get hk, if_neg (by omega), if_pos rfl]
theorem trn_set {h : Nat → List Int} {g k i : Nat} (hi : i < (h k).length) : (trn h g k i).set k ((h k).take i ++ [(h k)[i]]) = trn h g k (i + 1) := by
  unfold trn
  rw [tb_set]
  refine tb_congr fun a _ => ?_
  by_cases ha : a = k
  · subst ha
    rw [if_pos rfl, if_neg (by omega), if_pos rfl, List.take_succ_eq_append_getElem hi]
  · rw [if_neg ha]
    by_cases hb : a < k
    · rw [if_pos hb, if_pos hb]
    · rw [if_neg hb, if_neg hb, if_neg ha, if_neg ha]
theorem trn_end {h : Nat → List Int} {g k : Nat} : trn h g k (h k).length = trn h g (k + 1) 0 := by
  unfold trn
  refine tb_congr fun a _ => ?_
  by_cases hb : a < k
  · rw [if_pos hb, if_pos (by omega)]
  · rw [if_neg hb]
    by_cases ha : a = k
    · subst ha; rw [if_pos rfl, List.take_length, if_pos (by omega)]
    · rw [if_neg ha, if_neg (by omega)]
      by_cases hc : a = k + 1
      · subst hc; rw [if_pos rfl]; rfl
      · rw [if_neg hc]
theorem trn_zero {h : Nat → List Int} {g : Nat} : List.replicate g ([] : List Int) = trn h g 0 0 := by
  rw [tb_replicate]
  unfold trn
  refine tb_congr fun a _ => ?_
  rw [if_neg (by omega)]
  by_cases hc : a = 0
  · subst hc; rw [if_pos rfl]; rfl
  · rw [if_neg hc]
theorem trn_all {h : Nat → List Int} {g : Nat} : trn h g g 0 = tb g h := by
  unfold trn
  exact tb_congr fun a ha => by rw [if_pos ha]
end Go.Proofs.Ytjhkeilampkihaa
