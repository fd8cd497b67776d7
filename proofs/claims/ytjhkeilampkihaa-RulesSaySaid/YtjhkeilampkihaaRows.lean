/-
  No cell of these rows narrows 'for every input' (looked for: loops, veiled, ifaces, maps, wideKeys, modest, calm, conditions, laid).
  DERIVED. THE GIVEN ROWS OF THIS SEAT. 12 by the template 'for every input the law returns true; each argument reads behind the call as it read before'; 0 by the template 'total and deterministic' (their statements: YtjhkeilampkihaaTotals.lean).
  GIVEN WITH THE SEED: the statements are not yours to turn. If you find one false, say at which input.
  Laid BY PROGRAM, IN A SANDBOX (cutbox-rows.mjs): the forced cells as the released guide's own fill.sh prints them over the translation 1effbba428b55f0e… (all of the seat's roots in one cut). By AI agents, Wed Nov 11 2026. No macro, syntax, notation, axiom, sorry.
-/
import Derived.Test.YtjhkeilampkihaaChecked
import GoSem.Claim
import GoSem.ClaimJoined
import GoSem.ClaimMapViews
import Derived.JoinedTies
import Derived.KernelRfl
namespace Go.Proofs.Ytjhkeilampkihaa
/- THE CELL 'sum', in the pinned program and in every row, IS THE sha256 OF THE DUMP (.gsa) THAT YtjhkeilampkihaaProg.lean LOADS. Nothing in Lean hashes anything: it is a label: what it is worth is what the hold of that sum in a sandbox is worth. -/
noncomputable def Try.pinned : Pinned := { name := "ytjhkeilampkihaa", sum := "1effbba428b55f0e73791312d880484253268b3d7bc38f1fc4aa41f9a9f8facb", checked := Try.checked }
namespace Rows
def none {H : Type} : Left H := { results := [], args := [] }

/-- 'plumelaw.SaddleSays': WHATEVER THE INPUT: true; the input reads as it did. -/
def saddleSaysSpec : ChangeSpec := { name := "saddleSays", fn := fun _ => fun
  | [d] => { results := [.lit (.bool true)], args := [d] }
  | _ => none }
def saddleSaysRow : OpenClaim := { program := "ytjhkeilampkihaa", sum := "1effbba428b55f0e73791312d880484253268b3d7bc38f1fc4aa41f9a9f8facb", func := "feathermark/plumelaw.SaddleSays", spec := "saddleSays", unfollowed := true, recurses := true, apart := false }
def SaddleSaysSaid : Prop := saddleSaysRow.holds Try.pinned (OpenSpec.ofChange saddleSaysSpec)

/-- ITS FALSE NEIGHBOUR: 'it returns false'. Refute it at one input. -/
def saddleSaysWrong : ChangeSpec := { name := "saddleSays", fn := fun _ => fun
  | [d] => { results := [.lit (.bool false)], args := [d] }
  | _ => none }
def SaddleSaysWrongFalsely : Prop := saddleSaysRow.holds Try.pinned (OpenSpec.ofChange saddleSaysWrong)

/-- 'plumetop.TopValue': WHATEVER THE INPUT: true; the input reads as it did. -/
def topValueSpec : ChangeSpec := { name := "topValue", fn := fun _ => fun
  | [d] => { results := [.lit (.bool true)], args := [d] }
  | _ => none }
def topValueRow : OpenClaim := { program := "ytjhkeilampkihaa", sum := "1effbba428b55f0e73791312d880484253268b3d7bc38f1fc4aa41f9a9f8facb", func := "feathermark/plumetop.TopValue", spec := "topValue", unfollowed := true, recurses := true, apart := false }
def TopValueSaid : Prop := topValueRow.holds Try.pinned (OpenSpec.ofChange topValueSpec)

/-- ITS FALSE NEIGHBOUR: 'it returns false'. Refute it at one input. -/
def topValueWrong : ChangeSpec := { name := "topValue", fn := fun _ => fun
  | [d] => { results := [.lit (.bool false)], args := [d] }
  | _ => none }
def TopValueWrongFalsely : Prop := topValueRow.holds Try.pinned (OpenSpec.ofChange topValueWrong)

/-- 'plumelaw.EquilSays': WHATEVER THE INPUT: true; the input reads as it did. -/
def equilSaysSpec : ChangeSpec := { name := "equilSays", fn := fun _ => fun
  | [d1, d2] => { results := [.lit (.bool true)], args := [d1, d2] }
  | _ => none }
def equilSaysRow : OpenClaim := { program := "ytjhkeilampkihaa", sum := "1effbba428b55f0e73791312d880484253268b3d7bc38f1fc4aa41f9a9f8facb", func := "feathermark/plumelaw.EquilSays", spec := "equilSays", unfollowed := true, recurses := true, apart := false }
def EquilSaysSaid : Prop := equilSaysRow.holds Try.pinned (OpenSpec.ofChange equilSaysSpec)

/-- ITS FALSE NEIGHBOUR: 'it returns false'. Refute it at one input. -/
def equilSaysWrong : ChangeSpec := { name := "equilSays", fn := fun _ => fun
  | [d1, d2] => { results := [.lit (.bool false)], args := [d1, d2] }
  | _ => none }
def EquilSaysWrongFalsely : Prop := equilSaysRow.holds Try.pinned (OpenSpec.ofChange equilSaysWrong)

/-- 'plumelaw.MixedSays': WHATEVER THE INPUT: true; the input reads as it did. -/
def mixedSaysSpec : ChangeSpec := { name := "mixedSays", fn := fun _ => fun
  | [d] => { results := [.lit (.bool true)], args := [d] }
  | _ => none }
def mixedSaysRow : OpenClaim := { program := "ytjhkeilampkihaa", sum := "1effbba428b55f0e73791312d880484253268b3d7bc38f1fc4aa41f9a9f8facb", func := "feathermark/plumelaw.MixedSays", spec := "mixedSays", unfollowed := true, recurses := true, apart := false }
def MixedSaysSaid : Prop := mixedSaysRow.holds Try.pinned (OpenSpec.ofChange mixedSaysSpec)

/-- ITS FALSE NEIGHBOUR: 'it returns false'. Refute it at one input. -/
def mixedSaysWrong : ChangeSpec := { name := "mixedSays", fn := fun _ => fun
  | [d] => { results := [.lit (.bool false)], args := [d] }
  | _ => none }
def MixedSaysWrongFalsely : Prop := mixedSaysRow.holds Try.pinned (OpenSpec.ofChange mixedSaysWrong)

/-- 'plumelaw.SeatsSay': WHATEVER THE INPUT: true; the input reads as it did. -/
def seatsSaySpec : ChangeSpec := { name := "seatsSay", fn := fun _ => fun
  | [d1, d2, d3] => { results := [.lit (.bool true)], args := [d1, d2, d3] }
  | _ => none }
def seatsSayRow : OpenClaim := { program := "ytjhkeilampkihaa", sum := "1effbba428b55f0e73791312d880484253268b3d7bc38f1fc4aa41f9a9f8facb", func := "feathermark/plumelaw.SeatsSay", spec := "seatsSay", unfollowed := true, recurses := true, apart := false }
def SeatsSaySaid : Prop := seatsSayRow.holds Try.pinned (OpenSpec.ofChange seatsSaySpec)

/-- ITS FALSE NEIGHBOUR: 'it returns false'. Refute it at one input. -/
def seatsSayWrong : ChangeSpec := { name := "seatsSay", fn := fun _ => fun
  | [d1, d2, d3] => { results := [.lit (.bool false)], args := [d1, d2, d3] }
  | _ => none }
def SeatsSayWrongFalsely : Prop := seatsSayRow.holds Try.pinned (OpenSpec.ofChange seatsSayWrong)

/-- 'plumetop.TopOrder': WHATEVER THE INPUT: true; the input reads as it did. -/
def topOrderSpec : ChangeSpec := { name := "topOrder", fn := fun _ => fun
  | [d1, d2] => { results := [.lit (.bool true)], args := [d1, d2] }
  | _ => none }
def topOrderRow : OpenClaim := { program := "ytjhkeilampkihaa", sum := "1effbba428b55f0e73791312d880484253268b3d7bc38f1fc4aa41f9a9f8facb", func := "feathermark/plumetop.TopOrder", spec := "topOrder", unfollowed := true, recurses := true, apart := false }
def TopOrderSaid : Prop := topOrderRow.holds Try.pinned (OpenSpec.ofChange topOrderSpec)

/-- ITS FALSE NEIGHBOUR: 'it returns false'. Refute it at one input. -/
def topOrderWrong : ChangeSpec := { name := "topOrder", fn := fun _ => fun
  | [d1, d2] => { results := [.lit (.bool false)], args := [d1, d2] }
  | _ => none }
def TopOrderWrongFalsely : Prop := topOrderRow.holds Try.pinned (OpenSpec.ofChange topOrderWrong)

/-- 'plumelaw.PeakSays': WHATEVER THE INPUT: true; the input reads as it did. -/
def peakSaysSpec : ChangeSpec := { name := "peakSays", fn := fun _ => fun
  | [d1, d2, d3] => { results := [.lit (.bool true)], args := [d1, d2, d3] }
  | _ => none }
def peakSaysRow : OpenClaim := { program := "ytjhkeilampkihaa", sum := "1effbba428b55f0e73791312d880484253268b3d7bc38f1fc4aa41f9a9f8facb", func := "feathermark/plumelaw.PeakSays", spec := "peakSays", unfollowed := true, recurses := true, apart := false }
def PeakSaysSaid : Prop := peakSaysRow.holds Try.pinned (OpenSpec.ofChange peakSaysSpec)

/-- ITS FALSE NEIGHBOUR: 'it returns false'. Refute it at one input. -/
def peakSaysWrong : ChangeSpec := { name := "peakSays", fn := fun _ => fun
  | [d1, d2, d3] => { results := [.lit (.bool false)], args := [d1, d2, d3] }
  | _ => none }
def PeakSaysWrongFalsely : Prop := peakSaysRow.holds Try.pinned (OpenSpec.ofChange peakSaysWrong)

/-- 'plumelaw.OrderSays': WHATEVER THE INPUT: true; the input reads as it did. -/
def orderSaysSpec : ChangeSpec := { name := "orderSays", fn := fun _ => fun
  | [d1, d2, d3, d4] => { results := [.lit (.bool true)], args := [d1, d2, d3, d4] }
  | _ => none }
def orderSaysRow : OpenClaim := { program := "ytjhkeilampkihaa", sum := "1effbba428b55f0e73791312d880484253268b3d7bc38f1fc4aa41f9a9f8facb", func := "feathermark/plumelaw.OrderSays", spec := "orderSays", unfollowed := true, recurses := true, apart := false }
def OrderSaysSaid : Prop := orderSaysRow.holds Try.pinned (OpenSpec.ofChange orderSaysSpec)

/-- ITS FALSE NEIGHBOUR: 'it returns false'. Refute it at one input. -/
def orderSaysWrong : ChangeSpec := { name := "orderSays", fn := fun _ => fun
  | [d1, d2, d3, d4] => { results := [.lit (.bool false)], args := [d1, d2, d3, d4] }
  | _ => none }
def OrderSaysWrongFalsely : Prop := orderSaysRow.holds Try.pinned (OpenSpec.ofChange orderSaysWrong)

/-- 'plumelaw.TallySays': WHATEVER THE INPUT: true; the input reads as it did. -/
def tallySaysSpec : ChangeSpec := { name := "tallySays", fn := fun _ => fun
  | [d1, d2] => { results := [.lit (.bool true)], args := [d1, d2] }
  | _ => none }
def tallySaysRow : OpenClaim := { program := "ytjhkeilampkihaa", sum := "1effbba428b55f0e73791312d880484253268b3d7bc38f1fc4aa41f9a9f8facb", func := "feathermark/plumelaw.TallySays", spec := "tallySays", unfollowed := true, recurses := true, apart := false }
def TallySaysSaid : Prop := tallySaysRow.holds Try.pinned (OpenSpec.ofChange tallySaysSpec)

/-- ITS FALSE NEIGHBOUR: 'it returns false'. Refute it at one input. -/
def tallySaysWrong : ChangeSpec := { name := "tallySays", fn := fun _ => fun
  | [d1, d2] => { results := [.lit (.bool false)], args := [d1, d2] }
  | _ => none }
def TallySaysWrongFalsely : Prop := tallySaysRow.holds Try.pinned (OpenSpec.ofChange tallySaysWrong)

/-- 'plumelaw.MiddleSays': WHATEVER THE INPUT: true; the input reads as it did. -/
def middleSaysSpec : ChangeSpec := { name := "middleSays", fn := fun _ => fun
  | [d1, d2, d3] => { results := [.lit (.bool true)], args := [d1, d2, d3] }
  | _ => none }
def middleSaysRow : OpenClaim := { program := "ytjhkeilampkihaa", sum := "1effbba428b55f0e73791312d880484253268b3d7bc38f1fc4aa41f9a9f8facb", func := "feathermark/plumelaw.MiddleSays", spec := "middleSays", unfollowed := true, recurses := true, apart := false }
def MiddleSaysSaid : Prop := middleSaysRow.holds Try.pinned (OpenSpec.ofChange middleSaysSpec)

/-- ITS FALSE NEIGHBOUR: 'it returns false'. Refute it at one input. -/
def middleSaysWrong : ChangeSpec := { name := "middleSays", fn := fun _ => fun
  | [d1, d2, d3] => { results := [.lit (.bool false)], args := [d1, d2, d3] }
  | _ => none }
def MiddleSaysWrongFalsely : Prop := middleSaysRow.holds Try.pinned (OpenSpec.ofChange middleSaysWrong)

/-- 'plumelaw.RulesSay': WHATEVER THE INPUT: true; the input reads as it did. -/
def rulesSaySpec : ChangeSpec := { name := "rulesSay", fn := fun _ => fun
  | [d1, d2, d3] => { results := [.lit (.bool true)], args := [d1, d2, d3] }
  | _ => none }
def rulesSayRow : OpenClaim := { program := "ytjhkeilampkihaa", sum := "1effbba428b55f0e73791312d880484253268b3d7bc38f1fc4aa41f9a9f8facb", func := "feathermark/plumelaw.RulesSay", spec := "rulesSay", unfollowed := true, recurses := true, apart := false }
def RulesSaySaid : Prop := rulesSayRow.holds Try.pinned (OpenSpec.ofChange rulesSaySpec)

/-- ITS FALSE NEIGHBOUR: 'it returns false'. Refute it at one input. -/
def rulesSayWrong : ChangeSpec := { name := "rulesSay", fn := fun _ => fun
  | [d1, d2, d3] => { results := [.lit (.bool false)], args := [d1, d2, d3] }
  | _ => none }
def RulesSayWrongFalsely : Prop := rulesSayRow.holds Try.pinned (OpenSpec.ofChange rulesSayWrong)

/-- 'plumelaw.WorthSays': WHATEVER THE INPUT: true; the input reads as it did. -/
def worthSaysSpec : ChangeSpec := { name := "worthSays", fn := fun _ => fun
  | [d1, d2, d3, d4] => { results := [.lit (.bool true)], args := [d1, d2, d3, d4] }
  | _ => none }
def worthSaysRow : OpenClaim := { program := "ytjhkeilampkihaa", sum := "1effbba428b55f0e73791312d880484253268b3d7bc38f1fc4aa41f9a9f8facb", func := "feathermark/plumelaw.WorthSays", spec := "worthSays", unfollowed := true, recurses := true, apart := false }
def WorthSaysSaid : Prop := worthSaysRow.holds Try.pinned (OpenSpec.ofChange worthSaysSpec)

/-- ITS FALSE NEIGHBOUR: 'it returns false'. Refute it at one input. -/
def worthSaysWrong : ChangeSpec := { name := "worthSays", fn := fun _ => fun
  | [d1, d2, d3, d4] => { results := [.lit (.bool false)], args := [d1, d2, d3, d4] }
  | _ => none }
def WorthSaysWrongFalsely : Prop := worthSaysRow.holds Try.pinned (OpenSpec.ofChange worthSaysWrong)

/- THE SECOND FORM. 'bulk': how many values and letters a reading holds, each counted each time it is reached (what is shared counts as often as it is met; a slice's spare places count too). A statement '..UptoSaid' is the law's where the arguments, and the package variables that the reading takes, are together of bulk at most 1048576: NARROWER than '..Said'. Prove '..Said' where nothing that the law and all that it calls make is longer than what came in: it says more and counts as full. Else prove '..UptoSaid'. A law counts once. -/
mutual
def uptoBulk {H : Type} : DataW H → Nat
  | .lit (.string bytes) => bytes.length + 1
  | .lit _ => 1
  | .nil => 1
  | .ptr d => uptoBulk d + 1
  | .slice elems spare => uptoBulkAll elems + uptoBulkAll spare + 1
  | .agg parts => uptoBulkAll parts + 1
  | .iface _ d => uptoBulk d + 1
  | .map entries => uptoBulkEntries entries + 1
  | .held _ => 1
def uptoBulkAll {H : Type} : List (DataW H) → Nat
  | [] => 0
  | d :: r => uptoBulk d + uptoBulkAll r
def uptoBulkEntries {H : Type} : List (Lit × DataW H) → Nat
  | [] => 0
  | x :: r => uptoBulkEntry x + uptoBulkEntries r
def uptoBulkEntry {H : Type} : Lit × DataW H → Nat
  | (.string bytes, d) => bytes.length + uptoBulk d + 1
  | (_, d) => uptoBulk d + 1
 end
def uptoSmall : (H : Type) → List (DataW H) → Bool := fun _ ds => decide (uptoBulkAll ds ≤ 1048576)
def OpenSpec.upto (s : _root_.Go.ChangeSpec) : _root_.Go.OpenSpec := { _root_.Go.OpenSpec.ofChange s with cond := some uptoSmall }

/-- 'plumelaw.SaddleSays', WHERE WHAT IT READS IS OF BULK AT MOST 1048576: true; the input reads as it did. -/
def saddleSaysUptoRow : OpenClaim := { program := "ytjhkeilampkihaa", sum := "1effbba428b55f0e73791312d880484253268b3d7bc38f1fc4aa41f9a9f8facb", func := "feathermark/plumelaw.SaddleSays", spec := "saddleSays", unfollowed := true, recurses := true, apart := false, narrowed := true }
def SaddleSaysUptoSaid : Prop := saddleSaysUptoRow.holds Try.pinned (OpenSpec.upto saddleSaysSpec)

/-- 'plumetop.TopValue', WHERE WHAT IT READS IS OF BULK AT MOST 1048576: true; the input reads as it did. -/
def topValueUptoRow : OpenClaim := { program := "ytjhkeilampkihaa", sum := "1effbba428b55f0e73791312d880484253268b3d7bc38f1fc4aa41f9a9f8facb", func := "feathermark/plumetop.TopValue", spec := "topValue", unfollowed := true, recurses := true, apart := false, narrowed := true }
def TopValueUptoSaid : Prop := topValueUptoRow.holds Try.pinned (OpenSpec.upto topValueSpec)

/-- 'plumelaw.EquilSays', WHERE WHAT IT READS IS OF BULK AT MOST 1048576: true; the input reads as it did. -/
def equilSaysUptoRow : OpenClaim := { program := "ytjhkeilampkihaa", sum := "1effbba428b55f0e73791312d880484253268b3d7bc38f1fc4aa41f9a9f8facb", func := "feathermark/plumelaw.EquilSays", spec := "equilSays", unfollowed := true, recurses := true, apart := false, narrowed := true }
def EquilSaysUptoSaid : Prop := equilSaysUptoRow.holds Try.pinned (OpenSpec.upto equilSaysSpec)

/-- 'plumelaw.MixedSays', WHERE WHAT IT READS IS OF BULK AT MOST 1048576: true; the input reads as it did. -/
def mixedSaysUptoRow : OpenClaim := { program := "ytjhkeilampkihaa", sum := "1effbba428b55f0e73791312d880484253268b3d7bc38f1fc4aa41f9a9f8facb", func := "feathermark/plumelaw.MixedSays", spec := "mixedSays", unfollowed := true, recurses := true, apart := false, narrowed := true }
def MixedSaysUptoSaid : Prop := mixedSaysUptoRow.holds Try.pinned (OpenSpec.upto mixedSaysSpec)

/-- 'plumelaw.SeatsSay', WHERE WHAT IT READS IS OF BULK AT MOST 1048576: true; the input reads as it did. -/
def seatsSayUptoRow : OpenClaim := { program := "ytjhkeilampkihaa", sum := "1effbba428b55f0e73791312d880484253268b3d7bc38f1fc4aa41f9a9f8facb", func := "feathermark/plumelaw.SeatsSay", spec := "seatsSay", unfollowed := true, recurses := true, apart := false, narrowed := true }
def SeatsSayUptoSaid : Prop := seatsSayUptoRow.holds Try.pinned (OpenSpec.upto seatsSaySpec)

/-- 'plumetop.TopOrder', WHERE WHAT IT READS IS OF BULK AT MOST 1048576: true; the input reads as it did. -/
def topOrderUptoRow : OpenClaim := { program := "ytjhkeilampkihaa", sum := "1effbba428b55f0e73791312d880484253268b3d7bc38f1fc4aa41f9a9f8facb", func := "feathermark/plumetop.TopOrder", spec := "topOrder", unfollowed := true, recurses := true, apart := false, narrowed := true }
def TopOrderUptoSaid : Prop := topOrderUptoRow.holds Try.pinned (OpenSpec.upto topOrderSpec)

/-- 'plumelaw.PeakSays', WHERE WHAT IT READS IS OF BULK AT MOST 1048576: true; the input reads as it did. -/
def peakSaysUptoRow : OpenClaim := { program := "ytjhkeilampkihaa", sum := "1effbba428b55f0e73791312d880484253268b3d7bc38f1fc4aa41f9a9f8facb", func := "feathermark/plumelaw.PeakSays", spec := "peakSays", unfollowed := true, recurses := true, apart := false, narrowed := true }
def PeakSaysUptoSaid : Prop := peakSaysUptoRow.holds Try.pinned (OpenSpec.upto peakSaysSpec)

/-- 'plumelaw.OrderSays', WHERE WHAT IT READS IS OF BULK AT MOST 1048576: true; the input reads as it did. -/
def orderSaysUptoRow : OpenClaim := { program := "ytjhkeilampkihaa", sum := "1effbba428b55f0e73791312d880484253268b3d7bc38f1fc4aa41f9a9f8facb", func := "feathermark/plumelaw.OrderSays", spec := "orderSays", unfollowed := true, recurses := true, apart := false, narrowed := true }
def OrderSaysUptoSaid : Prop := orderSaysUptoRow.holds Try.pinned (OpenSpec.upto orderSaysSpec)

/-- 'plumelaw.TallySays', WHERE WHAT IT READS IS OF BULK AT MOST 1048576: true; the input reads as it did. -/
def tallySaysUptoRow : OpenClaim := { program := "ytjhkeilampkihaa", sum := "1effbba428b55f0e73791312d880484253268b3d7bc38f1fc4aa41f9a9f8facb", func := "feathermark/plumelaw.TallySays", spec := "tallySays", unfollowed := true, recurses := true, apart := false, narrowed := true }
def TallySaysUptoSaid : Prop := tallySaysUptoRow.holds Try.pinned (OpenSpec.upto tallySaysSpec)

/-- 'plumelaw.MiddleSays', WHERE WHAT IT READS IS OF BULK AT MOST 1048576: true; the input reads as it did. -/
def middleSaysUptoRow : OpenClaim := { program := "ytjhkeilampkihaa", sum := "1effbba428b55f0e73791312d880484253268b3d7bc38f1fc4aa41f9a9f8facb", func := "feathermark/plumelaw.MiddleSays", spec := "middleSays", unfollowed := true, recurses := true, apart := false, narrowed := true }
def MiddleSaysUptoSaid : Prop := middleSaysUptoRow.holds Try.pinned (OpenSpec.upto middleSaysSpec)

/-- 'plumelaw.RulesSay', WHERE WHAT IT READS IS OF BULK AT MOST 1048576: true; the input reads as it did. -/
def rulesSayUptoRow : OpenClaim := { program := "ytjhkeilampkihaa", sum := "1effbba428b55f0e73791312d880484253268b3d7bc38f1fc4aa41f9a9f8facb", func := "feathermark/plumelaw.RulesSay", spec := "rulesSay", unfollowed := true, recurses := true, apart := false, narrowed := true }
def RulesSayUptoSaid : Prop := rulesSayUptoRow.holds Try.pinned (OpenSpec.upto rulesSaySpec)

/-- 'plumelaw.WorthSays', WHERE WHAT IT READS IS OF BULK AT MOST 1048576: true; the input reads as it did. -/
def worthSaysUptoRow : OpenClaim := { program := "ytjhkeilampkihaa", sum := "1effbba428b55f0e73791312d880484253268b3d7bc38f1fc4aa41f9a9f8facb", func := "feathermark/plumelaw.WorthSays", spec := "worthSays", unfollowed := true, recurses := true, apart := false, narrowed := true }
def WorthSaysUptoSaid : Prop := worthSaysUptoRow.holds Try.pinned (OpenSpec.upto worthSaysSpec)

end Rows
end Go.Proofs.Ytjhkeilampkihaa
