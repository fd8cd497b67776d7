/-
  No cell of these rows narrows 'for every input' (looked for: loops, veiled, ifaces, maps, wideKeys, modest, calm, conditions, laid).
  DERIVED. THE GIVEN ROWS OF THIS SEAT. 7 by the template 'for every input the law returns true; each argument reads behind the call as it read before'; 0 by the template 'total and deterministic' (their statements: YtohgcgedbhlnfaaTotals.lean).
  GIVEN WITH THE SEED: the statements are not yours to turn. If you find one false, say at which input.
  Laid BY PROGRAM, IN A SANDBOX (cutbox-rows.mjs): the forced cells as the released guide's own fill.sh prints them over the translation 39b2c50b2bf64614… (all of the seat's roots in one cut). By AI agents, Wed Nov 11 2026. No macro, syntax, notation, axiom, sorry.
-/
import Derived.Test.YtohgcgedbhlnfaaChecked
import GoSem.Claim
import GoSem.ClaimJoined
import GoSem.ClaimMapViews
import Derived.JoinedTies
import Derived.KernelRfl
namespace Go.Proofs.Ytohgcgedbhlnfaa
/- THE CELL 'sum', in the pinned program and in every row, IS THE sha256 OF THE DUMP (.gsa) THAT YtohgcgedbhlnfaaProg.lean LOADS. Nothing in Lean hashes anything: it is a label: what it is worth is what the hold of that sum in a sandbox is worth. -/
noncomputable def Try.pinned : Pinned := { name := "ytohgcgedbhlnfaa", sum := "39b2c50b2bf64614f76d90da1a8811c90142f9b4e89a8db6bd0aaf05c08a9013", checked := Try.checked }
namespace Rows
def none {H : Type} : Left H := { results := [], args := [] }

/-- 'plumelaw.DuelVotes': WHATEVER THE INPUT: true; the input reads as it did. -/
def duelVotesSpec : ChangeSpec := { name := "duelVotes", fn := fun _ => fun
  | [d1, d2] => { results := [.lit (.bool true)], args := [d1, d2] }
  | _ => none }
def duelVotesRow : OpenClaim := { program := "ytohgcgedbhlnfaa", sum := "39b2c50b2bf64614f76d90da1a8811c90142f9b4e89a8db6bd0aaf05c08a9013", func := "feathermark/plumelaw.DuelVotes", spec := "duelVotes", unfollowed := true, recurses := true, apart := false }
def DuelVotesSaid : Prop := duelVotesRow.holds Try.pinned (OpenSpec.ofChange duelVotesSpec)

/-- ITS FALSE NEIGHBOUR: 'it returns false'. Refute it at one input. -/
def duelVotesWrong : ChangeSpec := { name := "duelVotes", fn := fun _ => fun
  | [d1, d2] => { results := [.lit (.bool false)], args := [d1, d2] }
  | _ => none }
def DuelVotesWrongFalsely : Prop := duelVotesRow.holds Try.pinned (OpenSpec.ofChange duelVotesWrong)

/-- 'plumetop.TopValue': WHATEVER THE INPUT: true; the input reads as it did. -/
def topValueSpec : ChangeSpec := { name := "topValue", fn := fun _ => fun
  | [d] => { results := [.lit (.bool true)], args := [d] }
  | _ => none }
def topValueRow : OpenClaim := { program := "ytohgcgedbhlnfaa", sum := "39b2c50b2bf64614f76d90da1a8811c90142f9b4e89a8db6bd0aaf05c08a9013", func := "feathermark/plumetop.TopValue", spec := "topValue", unfollowed := true, recurses := true, apart := false }
def TopValueSaid : Prop := topValueRow.holds Try.pinned (OpenSpec.ofChange topValueSpec)

/-- ITS FALSE NEIGHBOUR: 'it returns false'. Refute it at one input. -/
def topValueWrong : ChangeSpec := { name := "topValue", fn := fun _ => fun
  | [d] => { results := [.lit (.bool false)], args := [d] }
  | _ => none }
def TopValueWrongFalsely : Prop := topValueRow.holds Try.pinned (OpenSpec.ofChange topValueWrong)

/-- 'plumelaw.SeatsSay': WHATEVER THE INPUT: true; the input reads as it did. -/
def seatsSaySpec : ChangeSpec := { name := "seatsSay", fn := fun _ => fun
  | [d1, d2, d3] => { results := [.lit (.bool true)], args := [d1, d2, d3] }
  | _ => none }
def seatsSayRow : OpenClaim := { program := "ytohgcgedbhlnfaa", sum := "39b2c50b2bf64614f76d90da1a8811c90142f9b4e89a8db6bd0aaf05c08a9013", func := "feathermark/plumelaw.SeatsSay", spec := "seatsSay", unfollowed := true, recurses := true, apart := false }
def SeatsSaySaid : Prop := seatsSayRow.holds Try.pinned (OpenSpec.ofChange seatsSaySpec)

/-- ITS FALSE NEIGHBOUR: 'it returns false'. Refute it at one input. -/
def seatsSayWrong : ChangeSpec := { name := "seatsSay", fn := fun _ => fun
  | [d1, d2, d3] => { results := [.lit (.bool false)], args := [d1, d2, d3] }
  | _ => none }
def SeatsSayWrongFalsely : Prop := seatsSayRow.holds Try.pinned (OpenSpec.ofChange seatsSayWrong)

/-- 'plumetop.TopOrder': WHATEVER THE INPUT: true; the input reads as it did. -/
def topOrderSpec : ChangeSpec := { name := "topOrder", fn := fun _ => fun
  | [d1, d2] => { results := [.lit (.bool true)], args := [d1, d2] }
  | _ => none }
def topOrderRow : OpenClaim := { program := "ytohgcgedbhlnfaa", sum := "39b2c50b2bf64614f76d90da1a8811c90142f9b4e89a8db6bd0aaf05c08a9013", func := "feathermark/plumetop.TopOrder", spec := "topOrder", unfollowed := true, recurses := true, apart := false }
def TopOrderSaid : Prop := topOrderRow.holds Try.pinned (OpenSpec.ofChange topOrderSpec)

/-- ITS FALSE NEIGHBOUR: 'it returns false'. Refute it at one input. -/
def topOrderWrong : ChangeSpec := { name := "topOrder", fn := fun _ => fun
  | [d1, d2] => { results := [.lit (.bool false)], args := [d1, d2] }
  | _ => none }
def TopOrderWrongFalsely : Prop := topOrderRow.holds Try.pinned (OpenSpec.ofChange topOrderWrong)

/-- 'plumelaw.MixedSays': WHATEVER THE INPUT: true; the input reads as it did. -/
def mixedSaysSpec : ChangeSpec := { name := "mixedSays", fn := fun _ => fun
  | [d] => { results := [.lit (.bool true)], args := [d] }
  | _ => none }
def mixedSaysRow : OpenClaim := { program := "ytohgcgedbhlnfaa", sum := "39b2c50b2bf64614f76d90da1a8811c90142f9b4e89a8db6bd0aaf05c08a9013", func := "feathermark/plumelaw.MixedSays", spec := "mixedSays", unfollowed := true, recurses := true, apart := false }
def MixedSaysSaid : Prop := mixedSaysRow.holds Try.pinned (OpenSpec.ofChange mixedSaysSpec)

/-- ITS FALSE NEIGHBOUR: 'it returns false'. Refute it at one input. -/
def mixedSaysWrong : ChangeSpec := { name := "mixedSays", fn := fun _ => fun
  | [d] => { results := [.lit (.bool false)], args := [d] }
  | _ => none }
def MixedSaysWrongFalsely : Prop := mixedSaysRow.holds Try.pinned (OpenSpec.ofChange mixedSaysWrong)

/-- 'plumelaw.TradeSays': WHATEVER THE INPUT: true; the input reads as it did. -/
def tradeSaysSpec : ChangeSpec := { name := "tradeSays", fn := fun _ => fun
  | [d1, d2] => { results := [.lit (.bool true)], args := [d1, d2] }
  | _ => none }
def tradeSaysRow : OpenClaim := { program := "ytohgcgedbhlnfaa", sum := "39b2c50b2bf64614f76d90da1a8811c90142f9b4e89a8db6bd0aaf05c08a9013", func := "feathermark/plumelaw.TradeSays", spec := "tradeSays", unfollowed := true, recurses := true, apart := false }
def TradeSaysSaid : Prop := tradeSaysRow.holds Try.pinned (OpenSpec.ofChange tradeSaysSpec)

/-- ITS FALSE NEIGHBOUR: 'it returns false'. Refute it at one input. -/
def tradeSaysWrong : ChangeSpec := { name := "tradeSays", fn := fun _ => fun
  | [d1, d2] => { results := [.lit (.bool false)], args := [d1, d2] }
  | _ => none }
def TradeSaysWrongFalsely : Prop := tradeSaysRow.holds Try.pinned (OpenSpec.ofChange tradeSaysWrong)

/-- 'plumetop.TopSale': WHATEVER THE INPUT: true; the input reads as it did. -/
def topSaleSpec : ChangeSpec := { name := "topSale", fn := fun _ => fun
  | [d1, d2] => { results := [.lit (.bool true)], args := [d1, d2] }
  | _ => none }
def topSaleRow : OpenClaim := { program := "ytohgcgedbhlnfaa", sum := "39b2c50b2bf64614f76d90da1a8811c90142f9b4e89a8db6bd0aaf05c08a9013", func := "feathermark/plumetop.TopSale", spec := "topSale", unfollowed := true, recurses := true, apart := false }
def TopSaleSaid : Prop := topSaleRow.holds Try.pinned (OpenSpec.ofChange topSaleSpec)

/-- ITS FALSE NEIGHBOUR: 'it returns false'. Refute it at one input. -/
def topSaleWrong : ChangeSpec := { name := "topSale", fn := fun _ => fun
  | [d1, d2] => { results := [.lit (.bool false)], args := [d1, d2] }
  | _ => none }
def TopSaleWrongFalsely : Prop := topSaleRow.holds Try.pinned (OpenSpec.ofChange topSaleWrong)

/- THE SECOND FORM. 'bulk': how many values and letters a reading holds, each counted each time it is reached (what is shared counts as often as it is met; a slice's spare places count too). A statement '..UptoSaid' is the law's where the arguments, and the package variables that the reading takes, are together of bulk at most 1048576: NARROWER than '..Said'. Prove '..Said' where nothing that the law and all that it calls make is longer than what came in: it says more and counts as full. Else prove '..UptoSaid'. A law counts once. -/
mutual
def uptoBulk {H : Type} : DataW H → Nat
  | .lit (.string bytes) => bytes.length + 1
  | .lit _ => 1
  | .nil => 1
  | .ptr d => uptoBulk d + 1
  | .slice elems spare => uptoBulkAll elems + uptoBulkAll spare + 1
  | .agg parts => uptoBulkAll parts + 1
  | .iface _ d => uptoBulk d + 1
  | .map entries => uptoBulkEntries entries + 1
  | .held _ => 1
def uptoBulkAll {H : Type} : List (DataW H) → Nat
  | [] => 0
  | d :: r => uptoBulk d + uptoBulkAll r
def uptoBulkEntries {H : Type} : List (Lit × DataW H) → Nat
  | [] => 0
  | x :: r => uptoBulkEntry x + uptoBulkEntries r
def uptoBulkEntry {H : Type} : Lit × DataW H → Nat
  | (.string bytes, d) => bytes.length + uptoBulk d + 1
  | (_, d) => uptoBulk d + 1
 end
def uptoSmall : (H : Type) → List (DataW H) → Bool := fun _ ds => decide (uptoBulkAll ds ≤ 1048576)
def OpenSpec.upto (s : _root_.Go.ChangeSpec) : _root_.Go.OpenSpec := { _root_.Go.OpenSpec.ofChange s with cond := some uptoSmall }

/-- 'plumelaw.DuelVotes', WHERE WHAT IT READS IS OF BULK AT MOST 1048576: true; the input reads as it did. -/
def duelVotesUptoRow : OpenClaim := { program := "ytohgcgedbhlnfaa", sum := "39b2c50b2bf64614f76d90da1a8811c90142f9b4e89a8db6bd0aaf05c08a9013", func := "feathermark/plumelaw.DuelVotes", spec := "duelVotes", unfollowed := true, recurses := true, apart := false, narrowed := true }
def DuelVotesUptoSaid : Prop := duelVotesUptoRow.holds Try.pinned (OpenSpec.upto duelVotesSpec)

/-- 'plumetop.TopValue', WHERE WHAT IT READS IS OF BULK AT MOST 1048576: true; the input reads as it did. -/
def topValueUptoRow : OpenClaim := { program := "ytohgcgedbhlnfaa", sum := "39b2c50b2bf64614f76d90da1a8811c90142f9b4e89a8db6bd0aaf05c08a9013", func := "feathermark/plumetop.TopValue", spec := "topValue", unfollowed := true, recurses := true, apart := false, narrowed := true }
def TopValueUptoSaid : Prop := topValueUptoRow.holds Try.pinned (OpenSpec.upto topValueSpec)

/-- 'plumelaw.SeatsSay', WHERE WHAT IT READS IS OF BULK AT MOST 1048576: true; the input reads as it did. -/
def seatsSayUptoRow : OpenClaim := { program := "ytohgcgedbhlnfaa", sum := "39b2c50b2bf64614f76d90da1a8811c90142f9b4e89a8db6bd0aaf05c08a9013", func := "feathermark/plumelaw.SeatsSay", spec := "seatsSay", unfollowed := true, recurses := true, apart := false, narrowed := true }
def SeatsSayUptoSaid : Prop := seatsSayUptoRow.holds Try.pinned (OpenSpec.upto seatsSaySpec)

/-- 'plumetop.TopOrder', WHERE WHAT IT READS IS OF BULK AT MOST 1048576: true; the input reads as it did. -/
def topOrderUptoRow : OpenClaim := { program := "ytohgcgedbhlnfaa", sum := "39b2c50b2bf64614f76d90da1a8811c90142f9b4e89a8db6bd0aaf05c08a9013", func := "feathermark/plumetop.TopOrder", spec := "topOrder", unfollowed := true, recurses := true, apart := false, narrowed := true }
def TopOrderUptoSaid : Prop := topOrderUptoRow.holds Try.pinned (OpenSpec.upto topOrderSpec)

/-- 'plumelaw.MixedSays', WHERE WHAT IT READS IS OF BULK AT MOST 1048576: true; the input reads as it did. -/
def mixedSaysUptoRow : OpenClaim := { program := "ytohgcgedbhlnfaa", sum := "39b2c50b2bf64614f76d90da1a8811c90142f9b4e89a8db6bd0aaf05c08a9013", func := "feathermark/plumelaw.MixedSays", spec := "mixedSays", unfollowed := true, recurses := true, apart := false, narrowed := true }
def MixedSaysUptoSaid : Prop := mixedSaysUptoRow.holds Try.pinned (OpenSpec.upto mixedSaysSpec)

/-- 'plumelaw.TradeSays', WHERE WHAT IT READS IS OF BULK AT MOST 1048576: true; the input reads as it did. -/
def tradeSaysUptoRow : OpenClaim := { program := "ytohgcgedbhlnfaa", sum := "39b2c50b2bf64614f76d90da1a8811c90142f9b4e89a8db6bd0aaf05c08a9013", func := "feathermark/plumelaw.TradeSays", spec := "tradeSays", unfollowed := true, recurses := true, apart := false, narrowed := true }
def TradeSaysUptoSaid : Prop := tradeSaysUptoRow.holds Try.pinned (OpenSpec.upto tradeSaysSpec)

/-- 'plumetop.TopSale', WHERE WHAT IT READS IS OF BULK AT MOST 1048576: true; the input reads as it did. -/
def topSaleUptoRow : OpenClaim := { program := "ytohgcgedbhlnfaa", sum := "39b2c50b2bf64614f76d90da1a8811c90142f9b4e89a8db6bd0aaf05c08a9013", func := "feathermark/plumetop.TopSale", spec := "topSale", unfollowed := true, recurses := true, apart := false, narrowed := true }
def TopSaleUptoSaid : Prop := topSaleUptoRow.holds Try.pinned (OpenSpec.upto topSaleSpec)

end Rows
end Go.Proofs.Ytohgcgedbhlnfaa
