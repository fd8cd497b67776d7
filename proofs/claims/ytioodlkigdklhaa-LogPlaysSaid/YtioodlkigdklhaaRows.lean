/-
  No cell of these rows narrows 'for every input' (looked for: loops, veiled, ifaces, maps, wideKeys, modest, calm, conditions, laid).
  DERIVED. THE GIVEN ROWS OF THIS SEAT. 12 by the template 'for every input the law returns true; each argument reads behind the call as it read before'; 0 by the template 'total and deterministic' (their statements: YtioodlkigdklhaaTotals.lean).
  GIVEN WITH THE SEED: the statements are not yours to turn. If you find one false, say at which input.
  Laid BY PROGRAM, IN A SANDBOX (cutbox-rows.mjs): the forced cells as the released guide's own fill.sh prints them over the translation c9560df512f23cbc… (all of the seat's roots in one cut). By AI agents, Wed Nov 11 2026. No macro, syntax, notation, axiom, sorry.
-/
import Derived.Test.YtioodlkigdklhaaChecked
import GoSem.Claim
import GoSem.ClaimJoined
import GoSem.ClaimMapViews
import Derived.JoinedTies
import Derived.KernelRfl
namespace Go.Proofs.Ytioodlkigdklhaa
/- THE CELL 'sum', in the pinned program and in every row, IS THE sha256 OF THE DUMP (.gsa) THAT YtioodlkigdklhaaProg.lean LOADS. Nothing in Lean hashes anything: it is a label: what it is worth is what the hold of that sum in a sandbox is worth. -/
noncomputable def Try.pinned : Pinned := { name := "ytioodlkigdklhaa", sum := "c9560df512f23cbcee0e02557c304dc07040384d7e887c1f73dc129f26507381", checked := Try.checked }
namespace Rows
def none {H : Type} : Left H := { results := [], args := [] }

/-- 'plumelaw.Names': WHATEVER THE INPUT: true; the input reads as it did. -/
def namesSpec : ChangeSpec := { name := "names", fn := fun _ => fun
  | [] => { results := [.lit (.bool true)], args := [] }
  | _ => none }
def namesRow : OpenClaim := { program := "ytioodlkigdklhaa", sum := "c9560df512f23cbcee0e02557c304dc07040384d7e887c1f73dc129f26507381", func := "feathermark/plumelaw.Names", spec := "names", apart := false }
def NamesSaid : Prop := namesRow.holds Try.pinned (OpenSpec.ofChange namesSpec)

/-- ITS FALSE NEIGHBOUR: 'it returns false'. Refute it at one input. -/
def namesWrong : ChangeSpec := { name := "names", fn := fun _ => fun
  | [] => { results := [.lit (.bool false)], args := [] }
  | _ => none }
def NamesWrongFalsely : Prop := namesRow.holds Try.pinned (OpenSpec.ofChange namesWrong)

/-- 'plumelaw.LogFrames': WHATEVER THE INPUT: true; the input reads as it did. -/
def logFramesSpec : ChangeSpec := { name := "logFrames", fn := fun _ => fun
  | [d1, d2] => { results := [.lit (.bool true)], args := [d1, d2] }
  | _ => none }
def logFramesRow : OpenClaim := { program := "ytioodlkigdklhaa", sum := "c9560df512f23cbcee0e02557c304dc07040384d7e887c1f73dc129f26507381", func := "feathermark/plumelaw.LogFrames", spec := "logFrames", recurses := true, apart := false }
def LogFramesSaid : Prop := logFramesRow.holds Try.pinned (OpenSpec.ofChange logFramesSpec)

/-- ITS FALSE NEIGHBOUR: 'it returns false'. Refute it at one input. -/
def logFramesWrong : ChangeSpec := { name := "logFrames", fn := fun _ => fun
  | [d1, d2] => { results := [.lit (.bool false)], args := [d1, d2] }
  | _ => none }
def LogFramesWrongFalsely : Prop := logFramesRow.holds Try.pinned (OpenSpec.ofChange logFramesWrong)

/-- 'plumelaw.LogPlays': WHATEVER THE INPUT: true; the input reads as it did. -/
def logPlaysSpec : ChangeSpec := { name := "logPlays", fn := fun _ => fun
  | [d] => { results := [.lit (.bool true)], args := [d] }
  | _ => none }
def logPlaysRow : OpenClaim := { program := "ytioodlkigdklhaa", sum := "c9560df512f23cbcee0e02557c304dc07040384d7e887c1f73dc129f26507381", func := "feathermark/plumelaw.LogPlays", spec := "logPlays", recurses := true, apart := false }
def LogPlaysSaid : Prop := logPlaysRow.holds Try.pinned (OpenSpec.ofChange logPlaysSpec)

/-- ITS FALSE NEIGHBOUR: 'it returns false'. Refute it at one input. -/
def logPlaysWrong : ChangeSpec := { name := "logPlays", fn := fun _ => fun
  | [d] => { results := [.lit (.bool false)], args := [d] }
  | _ => none }
def LogPlaysWrongFalsely : Prop := logPlaysRow.holds Try.pinned (OpenSpec.ofChange logPlaysWrong)

/-- 'plumelaw.PowerSays': WHATEVER THE INPUT: true; the input reads as it did. -/
def powerSaysSpec : ChangeSpec := { name := "powerSays", fn := fun _ => fun
  | [d1, d2, d3] => { results := [.lit (.bool true)], args := [d1, d2, d3] }
  | _ => none }
def powerSaysRow : OpenClaim := { program := "ytioodlkigdklhaa", sum := "c9560df512f23cbcee0e02557c304dc07040384d7e887c1f73dc129f26507381", func := "feathermark/plumelaw.PowerSays", spec := "powerSays", recurses := true, apart := false }
def PowerSaysSaid : Prop := powerSaysRow.holds Try.pinned (OpenSpec.ofChange powerSaysSpec)

/-- ITS FALSE NEIGHBOUR: 'it returns false'. Refute it at one input. -/
def powerSaysWrong : ChangeSpec := { name := "powerSays", fn := fun _ => fun
  | [d1, d2, d3] => { results := [.lit (.bool false)], args := [d1, d2, d3] }
  | _ => none }
def PowerSaysWrongFalsely : Prop := powerSaysRow.holds Try.pinned (OpenSpec.ofChange powerSaysWrong)

/-- 'plumelaw.WidestSays': WHATEVER THE INPUT: true; the input reads as it did. -/
def widestSaysSpec : ChangeSpec := { name := "widestSays", fn := fun _ => fun
  | [d] => { results := [.lit (.bool true)], args := [d] }
  | _ => none }
def widestSaysRow : OpenClaim := { program := "ytioodlkigdklhaa", sum := "c9560df512f23cbcee0e02557c304dc07040384d7e887c1f73dc129f26507381", func := "feathermark/plumelaw.WidestSays", spec := "widestSays", unfollowed := true, recurses := true, apart := false }
def WidestSaysSaid : Prop := widestSaysRow.holds Try.pinned (OpenSpec.ofChange widestSaysSpec)

/-- ITS FALSE NEIGHBOUR: 'it returns false'. Refute it at one input. -/
def widestSaysWrong : ChangeSpec := { name := "widestSays", fn := fun _ => fun
  | [d] => { results := [.lit (.bool false)], args := [d] }
  | _ => none }
def WidestSaysWrongFalsely : Prop := widestSaysRow.holds Try.pinned (OpenSpec.ofChange widestSaysWrong)

/-- 'plumelaw.TreeSays': WHATEVER THE INPUT: true; the input reads as it did. -/
def treeSaysSpec : ChangeSpec := { name := "treeSays", fn := fun _ => fun
  | [d1, d2, d3] => { results := [.lit (.bool true)], args := [d1, d2, d3] }
  | _ => none }
def treeSaysRow : OpenClaim := { program := "ytioodlkigdklhaa", sum := "c9560df512f23cbcee0e02557c304dc07040384d7e887c1f73dc129f26507381", func := "feathermark/plumelaw.TreeSays", spec := "treeSays", unfollowed := true, recurses := true, apart := false }
def TreeSaysSaid : Prop := treeSaysRow.holds Try.pinned (OpenSpec.ofChange treeSaysSpec)

/-- ITS FALSE NEIGHBOUR: 'it returns false'. Refute it at one input. -/
def treeSaysWrong : ChangeSpec := { name := "treeSays", fn := fun _ => fun
  | [d1, d2, d3] => { results := [.lit (.bool false)], args := [d1, d2, d3] }
  | _ => none }
def TreeSaysWrongFalsely : Prop := treeSaysRow.holds Try.pinned (OpenSpec.ofChange treeSaysWrong)

/-- 'plumelaw.DuelVotes': WHATEVER THE INPUT: true; the input reads as it did. -/
def duelVotesSpec : ChangeSpec := { name := "duelVotes", fn := fun _ => fun
  | [d1, d2] => { results := [.lit (.bool true)], args := [d1, d2] }
  | _ => none }
def duelVotesRow : OpenClaim := { program := "ytioodlkigdklhaa", sum := "c9560df512f23cbcee0e02557c304dc07040384d7e887c1f73dc129f26507381", func := "feathermark/plumelaw.DuelVotes", spec := "duelVotes", unfollowed := true, recurses := true, apart := false }
def DuelVotesSaid : Prop := duelVotesRow.holds Try.pinned (OpenSpec.ofChange duelVotesSpec)

/-- ITS FALSE NEIGHBOUR: 'it returns false'. Refute it at one input. -/
def duelVotesWrong : ChangeSpec := { name := "duelVotes", fn := fun _ => fun
  | [d1, d2] => { results := [.lit (.bool false)], args := [d1, d2] }
  | _ => none }
def DuelVotesWrongFalsely : Prop := duelVotesRow.holds Try.pinned (OpenSpec.ofChange duelVotesWrong)

/-- 'plumelaw.GrovesSay': WHATEVER THE INPUT: true; the input reads as it did. -/
def grovesSaySpec : ChangeSpec := { name := "grovesSay", fn := fun _ => fun
  | [d] => { results := [.lit (.bool true)], args := [d] }
  | _ => none }
def grovesSayRow : OpenClaim := { program := "ytioodlkigdklhaa", sum := "c9560df512f23cbcee0e02557c304dc07040384d7e887c1f73dc129f26507381", func := "feathermark/plumelaw.GrovesSay", spec := "grovesSay", unfollowed := true, recurses := true, apart := false }
def GrovesSaySaid : Prop := grovesSayRow.holds Try.pinned (OpenSpec.ofChange grovesSaySpec)

/-- ITS FALSE NEIGHBOUR: 'it returns false'. Refute it at one input. -/
def grovesSayWrong : ChangeSpec := { name := "grovesSay", fn := fun _ => fun
  | [d] => { results := [.lit (.bool false)], args := [d] }
  | _ => none }
def GrovesSayWrongFalsely : Prop := grovesSayRow.holds Try.pinned (OpenSpec.ofChange grovesSayWrong)

/-- 'plumelaw.PilesSay': WHATEVER THE INPUT: true; the input reads as it did. -/
def pilesSaySpec : ChangeSpec := { name := "pilesSay", fn := fun _ => fun
  | [d1, d2, d3] => { results := [.lit (.bool true)], args := [d1, d2, d3] }
  | _ => none }
def pilesSayRow : OpenClaim := { program := "ytioodlkigdklhaa", sum := "c9560df512f23cbcee0e02557c304dc07040384d7e887c1f73dc129f26507381", func := "feathermark/plumelaw.PilesSay", spec := "pilesSay", unfollowed := true, recurses := true, apart := false }
def PilesSaySaid : Prop := pilesSayRow.holds Try.pinned (OpenSpec.ofChange pilesSaySpec)

/-- ITS FALSE NEIGHBOUR: 'it returns false'. Refute it at one input. -/
def pilesSayWrong : ChangeSpec := { name := "pilesSay", fn := fun _ => fun
  | [d1, d2, d3] => { results := [.lit (.bool false)], args := [d1, d2, d3] }
  | _ => none }
def PilesSayWrongFalsely : Prop := pilesSayRow.holds Try.pinned (OpenSpec.ofChange pilesSayWrong)

/-- 'plumetop.TopPower': WHATEVER THE INPUT: true; the input reads as it did. -/
def topPowerSpec : ChangeSpec := { name := "topPower", fn := fun _ => fun
  | [d1, d2] => { results := [.lit (.bool true)], args := [d1, d2] }
  | _ => none }
def topPowerRow : OpenClaim := { program := "ytioodlkigdklhaa", sum := "c9560df512f23cbcee0e02557c304dc07040384d7e887c1f73dc129f26507381", func := "feathermark/plumetop.TopPower", spec := "topPower", unfollowed := true, recurses := true, apart := false }
def TopPowerSaid : Prop := topPowerRow.holds Try.pinned (OpenSpec.ofChange topPowerSpec)

/-- ITS FALSE NEIGHBOUR: 'it returns false'. Refute it at one input. -/
def topPowerWrong : ChangeSpec := { name := "topPower", fn := fun _ => fun
  | [d1, d2] => { results := [.lit (.bool false)], args := [d1, d2] }
  | _ => none }
def TopPowerWrongFalsely : Prop := topPowerRow.holds Try.pinned (OpenSpec.ofChange topPowerWrong)

/-- 'plumelaw.DuelSays': WHATEVER THE INPUT: true; the input reads as it did. -/
def duelSaysSpec : ChangeSpec := { name := "duelSays", fn := fun _ => fun
  | [d] => { results := [.lit (.bool true)], args := [d] }
  | _ => none }
def duelSaysRow : OpenClaim := { program := "ytioodlkigdklhaa", sum := "c9560df512f23cbcee0e02557c304dc07040384d7e887c1f73dc129f26507381", func := "feathermark/plumelaw.DuelSays", spec := "duelSays", unfollowed := true, recurses := true, apart := false }
def DuelSaysSaid : Prop := duelSaysRow.holds Try.pinned (OpenSpec.ofChange duelSaysSpec)

/-- ITS FALSE NEIGHBOUR: 'it returns false'. Refute it at one input. -/
def duelSaysWrong : ChangeSpec := { name := "duelSays", fn := fun _ => fun
  | [d] => { results := [.lit (.bool false)], args := [d] }
  | _ => none }
def DuelSaysWrongFalsely : Prop := duelSaysRow.holds Try.pinned (OpenSpec.ofChange duelSaysWrong)

/-- 'plumelaw.RoadsSay': WHATEVER THE INPUT: true; the input reads as it did. -/
def roadsSaySpec : ChangeSpec := { name := "roadsSay", fn := fun _ => fun
  | [d1, d2, d3] => { results := [.lit (.bool true)], args := [d1, d2, d3] }
  | _ => none }
def roadsSayRow : OpenClaim := { program := "ytioodlkigdklhaa", sum := "c9560df512f23cbcee0e02557c304dc07040384d7e887c1f73dc129f26507381", func := "feathermark/plumelaw.RoadsSay", spec := "roadsSay", unfollowed := true, recurses := true, apart := false }
def RoadsSaySaid : Prop := roadsSayRow.holds Try.pinned (OpenSpec.ofChange roadsSaySpec)

/-- ITS FALSE NEIGHBOUR: 'it returns false'. Refute it at one input. -/
def roadsSayWrong : ChangeSpec := { name := "roadsSay", fn := fun _ => fun
  | [d1, d2, d3] => { results := [.lit (.bool false)], args := [d1, d2, d3] }
  | _ => none }
def RoadsSayWrongFalsely : Prop := roadsSayRow.holds Try.pinned (OpenSpec.ofChange roadsSayWrong)

/- THE SECOND FORM. 'bulk': how many values and letters a reading holds, each counted each time it is reached (what is shared counts as often as it is met; a slice's spare places count too). A statement '..UptoSaid' is the law's where the arguments, and the package variables that the reading takes, are together of bulk at most 1048576: NARROWER than '..Said'. Prove '..Said' where nothing that the law and all that it calls make is longer than what came in: it says more and counts as full. Else prove '..UptoSaid'. A law counts once. -/
mutual
def uptoBulk {H : Type} : DataW H → Nat
  | .lit (.string bytes) => bytes.length + 1
  | .lit _ => 1
  | .nil => 1
  | .ptr d => uptoBulk d + 1
  | .slice elems spare => uptoBulkAll elems + uptoBulkAll spare + 1
  | .agg parts => uptoBulkAll parts + 1
  | .iface _ d => uptoBulk d + 1
  | .map entries => uptoBulkEntries entries + 1
  | .held _ => 1
def uptoBulkAll {H : Type} : List (DataW H) → Nat
  | [] => 0
  | d :: r => uptoBulk d + uptoBulkAll r
def uptoBulkEntries {H : Type} : List (Lit × DataW H) → Nat
  | [] => 0
  | x :: r => uptoBulkEntry x + uptoBulkEntries r
def uptoBulkEntry {H : Type} : Lit × DataW H → Nat
  | (.string bytes, d) => bytes.length + uptoBulk d + 1
  | (_, d) => uptoBulk d + 1
 end
def uptoSmall : (H : Type) → List (DataW H) → Bool := fun _ ds => decide (uptoBulkAll ds ≤ 1048576)
def OpenSpec.upto (s : _root_.Go.ChangeSpec) : _root_.Go.OpenSpec := { _root_.Go.OpenSpec.ofChange s with cond := some uptoSmall }

/-- 'plumelaw.Names', WHERE WHAT IT READS IS OF BULK AT MOST 1048576: true; the input reads as it did. -/
def namesUptoRow : OpenClaim := { program := "ytioodlkigdklhaa", sum := "c9560df512f23cbcee0e02557c304dc07040384d7e887c1f73dc129f26507381", func := "feathermark/plumelaw.Names", spec := "names", apart := false, narrowed := true }
def NamesUptoSaid : Prop := namesUptoRow.holds Try.pinned (OpenSpec.upto namesSpec)

/-- 'plumelaw.LogFrames', WHERE WHAT IT READS IS OF BULK AT MOST 1048576: true; the input reads as it did. -/
def logFramesUptoRow : OpenClaim := { program := "ytioodlkigdklhaa", sum := "c9560df512f23cbcee0e02557c304dc07040384d7e887c1f73dc129f26507381", func := "feathermark/plumelaw.LogFrames", spec := "logFrames", recurses := true, apart := false, narrowed := true }
def LogFramesUptoSaid : Prop := logFramesUptoRow.holds Try.pinned (OpenSpec.upto logFramesSpec)

/-- 'plumelaw.LogPlays', WHERE WHAT IT READS IS OF BULK AT MOST 1048576: true; the input reads as it did. -/
def logPlaysUptoRow : OpenClaim := { program := "ytioodlkigdklhaa", sum := "c9560df512f23cbcee0e02557c304dc07040384d7e887c1f73dc129f26507381", func := "feathermark/plumelaw.LogPlays", spec := "logPlays", recurses := true, apart := false, narrowed := true }
def LogPlaysUptoSaid : Prop := logPlaysUptoRow.holds Try.pinned (OpenSpec.upto logPlaysSpec)

/-- 'plumelaw.PowerSays', WHERE WHAT IT READS IS OF BULK AT MOST 1048576: true; the input reads as it did. -/
def powerSaysUptoRow : OpenClaim := { program := "ytioodlkigdklhaa", sum := "c9560df512f23cbcee0e02557c304dc07040384d7e887c1f73dc129f26507381", func := "feathermark/plumelaw.PowerSays", spec := "powerSays", recurses := true, apart := false, narrowed := true }
def PowerSaysUptoSaid : Prop := powerSaysUptoRow.holds Try.pinned (OpenSpec.upto powerSaysSpec)

/-- 'plumelaw.WidestSays', WHERE WHAT IT READS IS OF BULK AT MOST 1048576: true; the input reads as it did. -/
def widestSaysUptoRow : OpenClaim := { program := "ytioodlkigdklhaa", sum := "c9560df512f23cbcee0e02557c304dc07040384d7e887c1f73dc129f26507381", func := "feathermark/plumelaw.WidestSays", spec := "widestSays", unfollowed := true, recurses := true, apart := false, narrowed := true }
def WidestSaysUptoSaid : Prop := widestSaysUptoRow.holds Try.pinned (OpenSpec.upto widestSaysSpec)

/-- 'plumelaw.TreeSays', WHERE WHAT IT READS IS OF BULK AT MOST 1048576: true; the input reads as it did. -/
def treeSaysUptoRow : OpenClaim := { program := "ytioodlkigdklhaa", sum := "c9560df512f23cbcee0e02557c304dc07040384d7e887c1f73dc129f26507381", func := "feathermark/plumelaw.TreeSays", spec := "treeSays", unfollowed := true, recurses := true, apart := false, narrowed := true }
def TreeSaysUptoSaid : Prop := treeSaysUptoRow.holds Try.pinned (OpenSpec.upto treeSaysSpec)

/-- 'plumelaw.DuelVotes', WHERE WHAT IT READS IS OF BULK AT MOST 1048576: true; the input reads as it did. -/
def duelVotesUptoRow : OpenClaim := { program := "ytioodlkigdklhaa", sum := "c9560df512f23cbcee0e02557c304dc07040384d7e887c1f73dc129f26507381", func := "feathermark/plumelaw.DuelVotes", spec := "duelVotes", unfollowed := true, recurses := true, apart := false, narrowed := true }
def DuelVotesUptoSaid : Prop := duelVotesUptoRow.holds Try.pinned (OpenSpec.upto duelVotesSpec)

/-- 'plumelaw.GrovesSay', WHERE WHAT IT READS IS OF BULK AT MOST 1048576: true; the input reads as it did. -/
def grovesSayUptoRow : OpenClaim := { program := "ytioodlkigdklhaa", sum := "c9560df512f23cbcee0e02557c304dc07040384d7e887c1f73dc129f26507381", func := "feathermark/plumelaw.GrovesSay", spec := "grovesSay", unfollowed := true, recurses := true, apart := false, narrowed := true }
def GrovesSayUptoSaid : Prop := grovesSayUptoRow.holds Try.pinned (OpenSpec.upto grovesSaySpec)

/-- 'plumelaw.PilesSay', WHERE WHAT IT READS IS OF BULK AT MOST 1048576: true; the input reads as it did. -/
def pilesSayUptoRow : OpenClaim := { program := "ytioodlkigdklhaa", sum := "c9560df512f23cbcee0e02557c304dc07040384d7e887c1f73dc129f26507381", func := "feathermark/plumelaw.PilesSay", spec := "pilesSay", unfollowed := true, recurses := true, apart := false, narrowed := true }
def PilesSayUptoSaid : Prop := pilesSayUptoRow.holds Try.pinned (OpenSpec.upto pilesSaySpec)

/-- 'plumetop.TopPower', WHERE WHAT IT READS IS OF BULK AT MOST 1048576: true; the input reads as it did. -/
def topPowerUptoRow : OpenClaim := { program := "ytioodlkigdklhaa", sum := "c9560df512f23cbcee0e02557c304dc07040384d7e887c1f73dc129f26507381", func := "feathermark/plumetop.TopPower", spec := "topPower", unfollowed := true, recurses := true, apart := false, narrowed := true }
def TopPowerUptoSaid : Prop := topPowerUptoRow.holds Try.pinned (OpenSpec.upto topPowerSpec)

/-- 'plumelaw.DuelSays', WHERE WHAT IT READS IS OF BULK AT MOST 1048576: true; the input reads as it did. -/
def duelSaysUptoRow : OpenClaim := { program := "ytioodlkigdklhaa", sum := "c9560df512f23cbcee0e02557c304dc07040384d7e887c1f73dc129f26507381", func := "feathermark/plumelaw.DuelSays", spec := "duelSays", unfollowed := true, recurses := true, apart := false, narrowed := true }
def DuelSaysUptoSaid : Prop := duelSaysUptoRow.holds Try.pinned (OpenSpec.upto duelSaysSpec)

/-- 'plumelaw.RoadsSay', WHERE WHAT IT READS IS OF BULK AT MOST 1048576: true; the input reads as it did. -/
def roadsSayUptoRow : OpenClaim := { program := "ytioodlkigdklhaa", sum := "c9560df512f23cbcee0e02557c304dc07040384d7e887c1f73dc129f26507381", func := "feathermark/plumelaw.RoadsSay", spec := "roadsSay", unfollowed := true, recurses := true, apart := false, narrowed := true }
def RoadsSayUptoSaid : Prop := roadsSayUptoRow.holds Try.pinned (OpenSpec.upto roadsSaySpec)

end Rows
end Go.Proofs.Ytioodlkigdklhaa
