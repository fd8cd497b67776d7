/- Accounts: the reference's Take. -/
import Derived.Test.YtkkcnppgcnmikaaGreatDoorHjnm
namespace Go.Proofs.YtkkcnppgcnmikaaGreatDoor
open Go FM Go.Proofs
set_option maxRecDepth 10000
set_option maxHeartbeats 3200000
set_option linter.all false
theorem set_same {α : Type} {X : List α} {k : Nat} {a : α} (h : X[k]? = some a) : X.set k a = X := by
  refine List.ext_getElem? fun i => ?_
  rw [List.getElem?_set]
  by_cases e : k = i
  · subst e; rw [if_pos rfl, if_pos (List.getElem?_eq_some_iff.1 h).1, h]
  · rw [if_neg e]
end Go.Proofs.YtkkcnppgcnmikaaGreatDoor
