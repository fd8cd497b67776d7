/-
  DERIVED. GIVEN WITH THE SEED: THE CARDS: each row of YtmndhhobdakpgaaDoorRows.lean that lists a variable, with what it lists TIED to the program's text (the seventh form; the later family's looks); each row that meets fmt, with fmt's text TOLD by the authors' own Lean function (tested against real Go, not proved from fmt's source: count such statements apart). THE CARD IS WHAT COUNTS. Prove the row's statement (the work); the ties are given (YtmndhhobdakpgaaDoorTie.lean); close each card by the builder's one call (the guide's Derived/Test/ToyasCard.lean, 'card_holds'). Laid BY PROGRAM, IN A SANDBOX (cutbox-door.mjs). By AI agents, Wed Nov 11 2026. No macro, syntax, notation, axiom, sorry.
-/
import Derived.Test.YtmndhhobdakpgaaDoorRows
import GoSem.ClaimSeven
namespace Go.Proofs.YtmndhhobdakpgaaDoor
namespace Rows

/-- THE TIED CARD OF 'plumelaw.QueueSays'. -/
def queueSaysCard : Claim7 := { stood := { row := queueSaysRow, standIns := [], harness := (true, "3c5a0b74b9c5c0a1cc3485be9db8b587a9f0422331c2db0ad95003a3d1ed00fc"), looks := false }, kinds := [], alts := [], laidByText := true, laidKinds := [.data, .pinned], laidTests := true, laidLooks := .later }
def QueueSaysCardSaid : Prop := Claim7.holds Tryd.pinned (.plain (OpenSpec.ofChange queueSaysSpec)) queueSaysCard

/-- THE TIED CARD OF 'plumelaw.PickSays'. -/
def pickSaysCard : Claim7 := { stood := { row := pickSaysRow, standIns := [], harness := (true, "3c5a0b74b9c5c0a1cc3485be9db8b587a9f0422331c2db0ad95003a3d1ed00fc"), looks := false }, kinds := [], alts := [], laidByText := true, laidKinds := [.data, .pinned], laidTests := true, laidLooks := .later }
def PickSaysCardSaid : Prop := Claim7.holds Tryd.pinned (.plain (OpenSpec.ofChange pickSaysSpec)) pickSaysCard

/-- THE TIED CARD OF 'plumelaw.LedgerSays'. -/
def ledgerSaysCard : Claim7 := { stood := { row := ledgerSaysRow, standIns := [], harness := (true, "3c5a0b74b9c5c0a1cc3485be9db8b587a9f0422331c2db0ad95003a3d1ed00fc"), looks := false }, kinds := [], alts := [], laidByText := true, laidKinds := [.data, .pinned], laidTests := true, laidLooks := .later }
def LedgerSaysCardSaid : Prop := Claim7.holds Tryd.pinned (.plain (OpenSpec.ofChange ledgerSaysSpec)) ledgerSaysCard

/-- THE SECOND FORM's CARD OF 'plumelaw.QueueSays'. -/
def queueSaysUptoCard : Claim7 := { stood := { row := queueSaysUptoRow, standIns := [], harness := (true, "3c5a0b74b9c5c0a1cc3485be9db8b587a9f0422331c2db0ad95003a3d1ed00fc"), looks := false }, kinds := [], alts := [], laidByText := true, laidKinds := [.data, .pinned], laidTests := true, laidLooks := .later }
def QueueSaysUptoCardSaid : Prop := Claim7.holds Tryd.pinned (.plain (OpenSpec.upto queueSaysSpec)) queueSaysUptoCard

/-- THE SECOND FORM's CARD OF 'plumelaw.PickSays'. -/
def pickSaysUptoCard : Claim7 := { stood := { row := pickSaysUptoRow, standIns := [], harness := (true, "3c5a0b74b9c5c0a1cc3485be9db8b587a9f0422331c2db0ad95003a3d1ed00fc"), looks := false }, kinds := [], alts := [], laidByText := true, laidKinds := [.data, .pinned], laidTests := true, laidLooks := .later }
def PickSaysUptoCardSaid : Prop := Claim7.holds Tryd.pinned (.plain (OpenSpec.upto pickSaysSpec)) pickSaysUptoCard

/-- THE SECOND FORM's CARD OF 'plumelaw.LedgerSays'. -/
def ledgerSaysUptoCard : Claim7 := { stood := { row := ledgerSaysUptoRow, standIns := [], harness := (true, "3c5a0b74b9c5c0a1cc3485be9db8b587a9f0422331c2db0ad95003a3d1ed00fc"), looks := false }, kinds := [], alts := [], laidByText := true, laidKinds := [.data, .pinned], laidTests := true, laidLooks := .later }
def LedgerSaysUptoCardSaid : Prop := Claim7.holds Tryd.pinned (.plain (OpenSpec.upto ledgerSaysSpec)) ledgerSaysUptoCard
end Rows
end Go.Proofs.YtmndhhobdakpgaaDoor
