/- Who turns the vote: by all orders, and by all sets. -/
import Derived.Test.YtioodlkigdklhaaPw6
namespace Go.Proofs.Ytioodlkigdklhaa
open Go FM
set_option maxRecDepth 100000
set_option linter.all false
def tr : Nat → List Int → List (Nat × Nat)
  | _, [] => []
  | m, x :: p => (m + 2 ^ x.toNat, x.toNat) :: tr (m + 2 ^ x.toNat) p
def okPair (n : Nat) (a : Nat × Nat) : Bool := Nat.blt a.2 n && (Nat.blt a.1 (2 ^ n) && (Nat.beq (shr a.1 a.2 % 2) 1 && Nat.beq (off a.1 a.2 + 2 ^ a.2) a.1))
def allTr (n : Nat) : List (Nat × Nat) := (allOrders n (iota n)).flatMap (tr 0)
def colOf (L : List (Nat × Nat)) (j : Nat) : List Nat := (L.filter fun a => Nat.beq a.2 j).map (·.1)
def cntB (n : Nat) : Bool := (allTr n).all (okPair n) && (List.range n).all fun j => (List.range (2 ^ n)).all fun s => bif Nat.beq (shr s j % 2) 1 then Nat.beq ((colOf (allTr n) j).count s) (fact (pc n s - 1) * fact (n - pc n s)) else true
theorem cnt_ok : ∀ n, n ≤ 6 → cntB n = true
  | 0, _ => by decide +kernel
  | 1, _ => by decide +kernel
  | 2, _ => by decide +kernel
  | 3, _ => by decide +kernel
  | 4, _ => by decide +kernel
  | 5, _ => by decide +kernel
  | 6, _ => by decide +kernel
  | n + 7, h => by omega
end Go.Proofs.Ytioodlkigdklhaa
