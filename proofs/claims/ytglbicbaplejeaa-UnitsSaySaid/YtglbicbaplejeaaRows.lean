/-
  No cell of these rows narrows 'for every input' (looked for: loops, veiled, ifaces, maps, wideKeys, modest, calm, conditions, laid).
  DERIVED. THE GIVEN ROWS OF THIS SEAT. 5 by the template 'for every input the law returns true; each argument reads behind the call as it read before'; 0 by the template 'total and deterministic' (their statements: YtglbicbaplejeaaTotals.lean).
  GIVEN WITH THE SEED: the statements are not yours to turn. If you find one false, say at which input.
  Laid BY PROGRAM, IN A SANDBOX (cutbox-rows.mjs): the forced cells as the released guide's own fill.sh prints them over the translation 8f629242db53c877… (all of the seat's roots in one cut). By AI agents, Wed Nov 11 2026. No macro, syntax, notation, axiom, sorry.
-/
import Derived.Test.YtglbicbaplejeaaChecked
import GoSem.Claim
import GoSem.ClaimJoined
import GoSem.ClaimMapViews
import Derived.JoinedTies
import Derived.KernelRfl
namespace Go.Proofs.Ytglbicbaplejeaa
/- THE CELL 'sum', in the pinned program and in every row, IS THE sha256 OF THE DUMP (.gsa) THAT YtglbicbaplejeaaProg.lean LOADS. Nothing in Lean hashes anything: it is a label: what it is worth is what the hold of that sum in a sandbox is worth. -/
noncomputable def Try.pinned : Pinned := { name := "ytglbicbaplejeaa", sum := "8f629242db53c877c07e6cc029928d219a18db7a4b5e1351fbc8037faf504156", checked := Try.checked }
namespace Rows
def none {H : Type} : Left H := { results := [], args := [] }

/-- 'plumelaw.KnapSays': WHATEVER THE INPUT: true; the input reads as it did. -/
def knapSaysSpec : ChangeSpec := { name := "knapSays", fn := fun _ => fun
  | [d1, d2] => { results := [.lit (.bool true)], args := [d1, d2] }
  | _ => none }
def knapSaysRow : OpenClaim := { program := "ytglbicbaplejeaa", sum := "8f629242db53c877c07e6cc029928d219a18db7a4b5e1351fbc8037faf504156", func := "feathermark/plumelaw.KnapSays", spec := "knapSays", recurses := true, apart := false }
def KnapSaysSaid : Prop := knapSaysRow.holds Try.pinned (OpenSpec.ofChange knapSaysSpec)

/-- ITS FALSE NEIGHBOUR: 'it returns false'. Refute it at one input. -/
def knapSaysWrong : ChangeSpec := { name := "knapSays", fn := fun _ => fun
  | [d1, d2] => { results := [.lit (.bool false)], args := [d1, d2] }
  | _ => none }
def KnapSaysWrongFalsely : Prop := knapSaysRow.holds Try.pinned (OpenSpec.ofChange knapSaysWrong)

/-- 'plumelaw.AuctionSays': WHATEVER THE INPUT: true; the input reads as it did. -/
def auctionSaysSpec : ChangeSpec := { name := "auctionSays", fn := fun _ => fun
  | [d1, d2, d3] => { results := [.lit (.bool true)], args := [d1, d2, d3] }
  | _ => none }
def auctionSaysRow : OpenClaim := { program := "ytglbicbaplejeaa", sum := "8f629242db53c877c07e6cc029928d219a18db7a4b5e1351fbc8037faf504156", func := "feathermark/plumelaw.AuctionSays", spec := "auctionSays", unfollowed := true, recurses := true, apart := false }
def AuctionSaysSaid : Prop := auctionSaysRow.holds Try.pinned (OpenSpec.ofChange auctionSaysSpec)

/-- ITS FALSE NEIGHBOUR: 'it returns false'. Refute it at one input. -/
def auctionSaysWrong : ChangeSpec := { name := "auctionSays", fn := fun _ => fun
  | [d1, d2, d3] => { results := [.lit (.bool false)], args := [d1, d2, d3] }
  | _ => none }
def AuctionSaysWrongFalsely : Prop := auctionSaysRow.holds Try.pinned (OpenSpec.ofChange auctionSaysWrong)

/-- 'plumelaw.TradeSays': WHATEVER THE INPUT: true; the input reads as it did. -/
def tradeSaysSpec : ChangeSpec := { name := "tradeSays", fn := fun _ => fun
  | [d1, d2] => { results := [.lit (.bool true)], args := [d1, d2] }
  | _ => none }
def tradeSaysRow : OpenClaim := { program := "ytglbicbaplejeaa", sum := "8f629242db53c877c07e6cc029928d219a18db7a4b5e1351fbc8037faf504156", func := "feathermark/plumelaw.TradeSays", spec := "tradeSays", unfollowed := true, recurses := true, apart := false }
def TradeSaysSaid : Prop := tradeSaysRow.holds Try.pinned (OpenSpec.ofChange tradeSaysSpec)

/-- ITS FALSE NEIGHBOUR: 'it returns false'. Refute it at one input. -/
def tradeSaysWrong : ChangeSpec := { name := "tradeSays", fn := fun _ => fun
  | [d1, d2] => { results := [.lit (.bool false)], args := [d1, d2] }
  | _ => none }
def TradeSaysWrongFalsely : Prop := tradeSaysRow.holds Try.pinned (OpenSpec.ofChange tradeSaysWrong)

/-- 'plumelaw.UnitsSay': WHATEVER THE INPUT: true; the input reads as it did. -/
def unitsSaySpec : ChangeSpec := { name := "unitsSay", fn := fun _ => fun
  | [d1, d2, d3, d4] => { results := [.lit (.bool true)], args := [d1, d2, d3, d4] }
  | _ => none }
def unitsSayRow : OpenClaim := { program := "ytglbicbaplejeaa", sum := "8f629242db53c877c07e6cc029928d219a18db7a4b5e1351fbc8037faf504156", func := "feathermark/plumelaw.UnitsSay", spec := "unitsSay", unfollowed := true, recurses := true, apart := false }
def UnitsSaySaid : Prop := unitsSayRow.holds Try.pinned (OpenSpec.ofChange unitsSaySpec)

/-- ITS FALSE NEIGHBOUR: 'it returns false'. Refute it at one input. -/
def unitsSayWrong : ChangeSpec := { name := "unitsSay", fn := fun _ => fun
  | [d1, d2, d3, d4] => { results := [.lit (.bool false)], args := [d1, d2, d3, d4] }
  | _ => none }
def UnitsSayWrongFalsely : Prop := unitsSayRow.holds Try.pinned (OpenSpec.ofChange unitsSayWrong)

/-- 'plumetop.TopSale': WHATEVER THE INPUT: true; the input reads as it did. -/
def topSaleSpec : ChangeSpec := { name := "topSale", fn := fun _ => fun
  | [d1, d2] => { results := [.lit (.bool true)], args := [d1, d2] }
  | _ => none }
def topSaleRow : OpenClaim := { program := "ytglbicbaplejeaa", sum := "8f629242db53c877c07e6cc029928d219a18db7a4b5e1351fbc8037faf504156", func := "feathermark/plumetop.TopSale", spec := "topSale", unfollowed := true, recurses := true, apart := false }
def TopSaleSaid : Prop := topSaleRow.holds Try.pinned (OpenSpec.ofChange topSaleSpec)

/-- ITS FALSE NEIGHBOUR: 'it returns false'. Refute it at one input. -/
def topSaleWrong : ChangeSpec := { name := "topSale", fn := fun _ => fun
  | [d1, d2] => { results := [.lit (.bool false)], args := [d1, d2] }
  | _ => none }
def TopSaleWrongFalsely : Prop := topSaleRow.holds Try.pinned (OpenSpec.ofChange topSaleWrong)

/- THE SECOND FORM. 'bulk': how many values and letters a reading holds, each counted each time it is reached (what is shared counts as often as it is met; a slice's spare places count too). A statement '..UptoSaid' is the law's where the arguments, and the package variables that the reading takes, are together of bulk at most 1048576: NARROWER than '..Said'. Prove '..Said' where nothing that the law and all that it calls make is longer than what came in: it says more and counts as full. Else prove '..UptoSaid'. A law counts once. -/
mutual
def uptoBulk {H : Type} : DataW H → Nat
  | .lit (.string bytes) => bytes.length + 1
  | .lit _ => 1
  | .nil => 1
  | .ptr d => uptoBulk d + 1
  | .slice elems spare => uptoBulkAll elems + uptoBulkAll spare + 1
  | .agg parts => uptoBulkAll parts + 1
  | .iface _ d => uptoBulk d + 1
  | .map entries => uptoBulkEntries entries + 1
  | .held _ => 1
def uptoBulkAll {H : Type} : List (DataW H) → Nat
  | [] => 0
  | d :: r => uptoBulk d + uptoBulkAll r
def uptoBulkEntries {H : Type} : List (Lit × DataW H) → Nat
  | [] => 0
  | x :: r => uptoBulkEntry x + uptoBulkEntries r
def uptoBulkEntry {H : Type} : Lit × DataW H → Nat
  | (.string bytes, d) => bytes.length + uptoBulk d + 1
  | (_, d) => uptoBulk d + 1
 end
def uptoSmall : (H : Type) → List (DataW H) → Bool := fun _ ds => decide (uptoBulkAll ds ≤ 1048576)
def OpenSpec.upto (s : _root_.Go.ChangeSpec) : _root_.Go.OpenSpec := { _root_.Go.OpenSpec.ofChange s with cond := some uptoSmall }

/-- 'plumelaw.KnapSays', WHERE WHAT IT READS IS OF BULK AT MOST 1048576: true; the input reads as it did. -/
def knapSaysUptoRow : OpenClaim := { program := "ytglbicbaplejeaa", sum := "8f629242db53c877c07e6cc029928d219a18db7a4b5e1351fbc8037faf504156", func := "feathermark/plumelaw.KnapSays", spec := "knapSays", recurses := true, apart := false, narrowed := true }
def KnapSaysUptoSaid : Prop := knapSaysUptoRow.holds Try.pinned (OpenSpec.upto knapSaysSpec)

/-- 'plumelaw.AuctionSays', WHERE WHAT IT READS IS OF BULK AT MOST 1048576: true; the input reads as it did. -/
def auctionSaysUptoRow : OpenClaim := { program := "ytglbicbaplejeaa", sum := "8f629242db53c877c07e6cc029928d219a18db7a4b5e1351fbc8037faf504156", func := "feathermark/plumelaw.AuctionSays", spec := "auctionSays", unfollowed := true, recurses := true, apart := false, narrowed := true }
def AuctionSaysUptoSaid : Prop := auctionSaysUptoRow.holds Try.pinned (OpenSpec.upto auctionSaysSpec)

/-- 'plumelaw.TradeSays', WHERE WHAT IT READS IS OF BULK AT MOST 1048576: true; the input reads as it did. -/
def tradeSaysUptoRow : OpenClaim := { program := "ytglbicbaplejeaa", sum := "8f629242db53c877c07e6cc029928d219a18db7a4b5e1351fbc8037faf504156", func := "feathermark/plumelaw.TradeSays", spec := "tradeSays", unfollowed := true, recurses := true, apart := false, narrowed := true }
def TradeSaysUptoSaid : Prop := tradeSaysUptoRow.holds Try.pinned (OpenSpec.upto tradeSaysSpec)

/-- 'plumelaw.UnitsSay', WHERE WHAT IT READS IS OF BULK AT MOST 1048576: true; the input reads as it did. -/
def unitsSayUptoRow : OpenClaim := { program := "ytglbicbaplejeaa", sum := "8f629242db53c877c07e6cc029928d219a18db7a4b5e1351fbc8037faf504156", func := "feathermark/plumelaw.UnitsSay", spec := "unitsSay", unfollowed := true, recurses := true, apart := false, narrowed := true }
def UnitsSayUptoSaid : Prop := unitsSayUptoRow.holds Try.pinned (OpenSpec.upto unitsSaySpec)

/-- 'plumetop.TopSale', WHERE WHAT IT READS IS OF BULK AT MOST 1048576: true; the input reads as it did. -/
def topSaleUptoRow : OpenClaim := { program := "ytglbicbaplejeaa", sum := "8f629242db53c877c07e6cc029928d219a18db7a4b5e1351fbc8037faf504156", func := "feathermark/plumetop.TopSale", spec := "topSale", unfollowed := true, recurses := true, apart := false, narrowed := true }
def TopSaleUptoSaid : Prop := topSaleUptoRow.holds Try.pinned (OpenSpec.upto topSaleSpec)

end Rows
end Go.Proofs.Ytglbicbaplejeaa
