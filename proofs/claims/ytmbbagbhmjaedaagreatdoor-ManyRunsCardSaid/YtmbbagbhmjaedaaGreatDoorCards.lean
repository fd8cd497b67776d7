/-
  DERIVED. GIVEN WITH THE SEED: THE CARDS: each row of YtmbbagbhmjaedaaGreatDoorRows.lean that lists a variable, with what it lists TIED to the program's text (the seventh form; the later family's looks); each row that meets fmt, with fmt's text TOLD by the authors' own Lean function (tested against real Go, not proved from fmt's source: count such statements apart). THE CARD IS WHAT COUNTS. Prove the row's statement (the work); the ties are given (YtmbbagbhmjaedaaGreatDoorTie.lean); close each card by the builder's one call (the guide's Derived/Test/ToyasCard.lean, 'card_holds'). Laid BY PROGRAM, IN A SANDBOX (cutbox-door.mjs). By AI agents, Wed Nov 11 2026. No macro, syntax, notation, axiom, sorry.
-/
import Derived.Test.YtmbbagbhmjaedaaGreatDoorRows
import GoSem.ClaimSeven
namespace Go.Proofs.YtmbbagbhmjaedaaGreatDoor
namespace Rows

/-- THE TIED CARD OF 'plumelaw.ManyRuns'. -/
def manyRunsCard : Claim7 := { stood := { row := manyRunsRow, standIns := [], harness := (true, "da4e5d6ab0b461dabd9c888139bcbfb2dcb3679272dcce7bf1fcf0004a0cd122"), looks := true }, kinds := [], alts := [], goes := true, laidByText := true, laidKinds := [.data, .data, .data, .data, .sentinel, .sentinel, .listed, .data, .pinned], laidTests := true, laidLooks := .later }
def ManyRunsCardSaid : Prop := Claim7.holds Tryz.pinned (.plain (OpenSpec.ofChange manyRunsSpec)) manyRunsCard

/-- THE SECOND FORM's CARD OF 'plumelaw.ManyRuns'. -/
def manyRunsUptoCard : Claim7 := { stood := { row := manyRunsUptoRow, standIns := [], harness := (true, "da4e5d6ab0b461dabd9c888139bcbfb2dcb3679272dcce7bf1fcf0004a0cd122"), looks := true }, kinds := [], alts := [], goes := true, laidByText := true, laidKinds := [.data, .data, .data, .data, .sentinel, .sentinel, .listed, .data, .pinned], laidTests := true, laidLooks := .later }
def ManyRunsUptoCardSaid : Prop := Claim7.holds Tryz.pinned (.plain (OpenSpec.upto manyRunsSpec)) manyRunsUptoCard
end Rows
end Go.Proofs.YtmbbagbhmjaedaaGreatDoor
