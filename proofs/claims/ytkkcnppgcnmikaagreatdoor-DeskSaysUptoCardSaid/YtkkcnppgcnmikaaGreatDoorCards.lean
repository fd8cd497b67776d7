/-
  DERIVED. GIVEN WITH THE SEED: THE CARDS: each row of YtkkcnppgcnmikaaGreatDoorRows.lean that lists a variable, with what it lists TIED to the program's text (the seventh form; the later family's looks); each row that meets fmt, with fmt's text TOLD by the authors' own Lean function (tested against real Go, not proved from fmt's source: count such statements apart). THE CARD IS WHAT COUNTS. Prove the row's statement (the work); the ties are given (YtkkcnppgcnmikaaGreatDoorTie.lean); close each card by the builder's one call (the guide's Derived/Test/ToyasCard.lean, 'card_holds'). Laid BY PROGRAM, IN A SANDBOX (cutbox-door.mjs). By AI agents, Wed Nov 11 2026. No macro, syntax, notation, axiom, sorry.
-/
import Derived.Test.YtkkcnppgcnmikaaGreatDoorRows
import GoSem.ClaimSeven
namespace Go.Proofs.YtkkcnppgcnmikaaGreatDoor
namespace Rows

/-- THE TIED CARD OF 'plumelaw.HousePlays'. -/
def housePlaysCard : Claim7 := { stood := { row := housePlaysRow, standIns := [], harness := (true, "1ba2346340a83deec5f9617e00e40edea61311ff3bbbde7260b181f6c24ae712"), looks := true }, kinds := [], alts := [], laidByText := true, laidKinds := [.data, .data, .data, .data, .sentinel, .sentinel, .listed, .data, .pinned], laidTests := true, laidLooks := .later }
def HousePlaysCardSaid : Prop := Claim7.holds Tryz.pinned (.plain (OpenSpec.ofChange housePlaysSpec)) housePlaysCard

/-- THE TIED CARD OF 'plumelaw.DeskSays'. -/
def deskSaysCard : Claim7 := { stood := { row := deskSaysRow, standIns := [], harness := (true, "1ba2346340a83deec5f9617e00e40edea61311ff3bbbde7260b181f6c24ae712"), looks := true }, kinds := [], alts := [], laidByText := true, laidKinds := [.data, .data, .data, .data, .sentinel, .sentinel, .listed, .data, .pinned], laidTests := true, laidLooks := .later }
def DeskSaysCardSaid : Prop := Claim7.holds Tryz.pinned (.plain (OpenSpec.ofChange deskSaysSpec)) deskSaysCard

/-- THE TIED CARD OF 'plumetop.TopPick'. -/
def topPickCard : Claim7 := { stood := { row := topPickRow, standIns := [], harness := (true, "1ba2346340a83deec5f9617e00e40edea61311ff3bbbde7260b181f6c24ae712"), looks := true }, kinds := [], alts := [], laidByText := true, laidKinds := [.data, .data, .data, .data, .sentinel, .sentinel, .pinned], laidTests := true, laidLooks := .later }
def TopPickCardSaid : Prop := Claim7.holds Tryz.pinned (.plain (OpenSpec.ofChange topPickSpec)) topPickCard

/-- THE SECOND FORM's CARD OF 'plumelaw.HousePlays'. -/
def housePlaysUptoCard : Claim7 := { stood := { row := housePlaysUptoRow, standIns := [], harness := (true, "1ba2346340a83deec5f9617e00e40edea61311ff3bbbde7260b181f6c24ae712"), looks := true }, kinds := [], alts := [], laidByText := true, laidKinds := [.data, .data, .data, .data, .sentinel, .sentinel, .listed, .data, .pinned], laidTests := true, laidLooks := .later }
def HousePlaysUptoCardSaid : Prop := Claim7.holds Tryz.pinned (.plain (OpenSpec.upto housePlaysSpec)) housePlaysUptoCard

/-- THE SECOND FORM's CARD OF 'plumelaw.DeskSays'. -/
def deskSaysUptoCard : Claim7 := { stood := { row := deskSaysUptoRow, standIns := [], harness := (true, "1ba2346340a83deec5f9617e00e40edea61311ff3bbbde7260b181f6c24ae712"), looks := true }, kinds := [], alts := [], laidByText := true, laidKinds := [.data, .data, .data, .data, .sentinel, .sentinel, .listed, .data, .pinned], laidTests := true, laidLooks := .later }
def DeskSaysUptoCardSaid : Prop := Claim7.holds Tryz.pinned (.plain (OpenSpec.upto deskSaysSpec)) deskSaysUptoCard

/-- THE SECOND FORM's CARD OF 'plumetop.TopPick'. -/
def topPickUptoCard : Claim7 := { stood := { row := topPickUptoRow, standIns := [], harness := (true, "1ba2346340a83deec5f9617e00e40edea61311ff3bbbde7260b181f6c24ae712"), looks := true }, kinds := [], alts := [], laidByText := true, laidKinds := [.data, .data, .data, .data, .sentinel, .sentinel, .pinned], laidTests := true, laidLooks := .later }
def TopPickUptoCardSaid : Prop := Claim7.holds Tryz.pinned (.plain (OpenSpec.upto topPickSpec)) topPickUptoCard
end Rows
end Go.Proofs.YtkkcnppgcnmikaaGreatDoor
