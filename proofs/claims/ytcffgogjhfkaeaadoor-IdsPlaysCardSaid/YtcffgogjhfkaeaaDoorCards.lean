/-
  DERIVED. GIVEN WITH THE SEED: THE CARDS: each row of YtcffgogjhfkaeaaDoorRows.lean that lists a variable, with what it lists TIED to the program's text (the seventh form; the later family's looks); each row that meets fmt, with fmt's text TOLD by the authors' own Lean function (tested against real Go, not proved from fmt's source: count such statements apart). THE CARD IS WHAT COUNTS. Prove the row's statement (the work); the ties are given (YtcffgogjhfkaeaaDoorTie.lean); close each card by the builder's one call (the guide's Derived/Test/ToyasCard.lean, 'card_holds'). Laid BY PROGRAM, IN A SANDBOX (cutbox-door.mjs). By AI agents, Wed Nov 11 2026. No macro, syntax, notation, axiom, sorry.
-/
import Derived.Test.YtcffgogjhfkaeaaDoorRows
import GoSem.ClaimSeven
namespace Go.Proofs.YtcffgogjhfkaeaaDoor
namespace Rows

/-- THE TIED CARD OF 'catwalklaw08.IdsFull'. -/
def idsFullCard : Claim7 := { stood := { row := idsFullRow, standIns := [], harness := (true, "05335fdca26c8d2c2b09b5404692095989eb63aa4f245e737d32e74694c2a62f"), looks := false }, kinds := [], alts := [], laidByText := true, laidKinds := [.data], laidTests := true, laidLooks := .later }
def IdsFullCardSaid : Prop := Claim7.holds Tryd.pinned (.plain (OpenSpec.ofChange idsFullSpec)) idsFullCard

/-- THE TIED CARD OF 'catwalklaw08.IdsPlays'. -/
def idsPlaysCard : Claim7 := { stood := { row := idsPlaysRow, standIns := [], harness := (true, "05335fdca26c8d2c2b09b5404692095989eb63aa4f245e737d32e74694c2a62f"), looks := false }, kinds := [], alts := [], laidByText := true, laidKinds := [.data], laidTests := true, laidLooks := .later }
def IdsPlaysCardSaid : Prop := Claim7.holds Tryd.pinned (.plain (OpenSpec.ofChange idsPlaysSpec)) idsPlaysCard

/-- THE SECOND FORM's CARD OF 'catwalklaw08.IdsFull'. -/
def idsFullUptoCard : Claim7 := { stood := { row := idsFullUptoRow, standIns := [], harness := (true, "05335fdca26c8d2c2b09b5404692095989eb63aa4f245e737d32e74694c2a62f"), looks := false }, kinds := [], alts := [], laidByText := true, laidKinds := [.data], laidTests := true, laidLooks := .later }
def IdsFullUptoCardSaid : Prop := Claim7.holds Tryd.pinned (.plain (OpenSpec.upto idsFullSpec)) idsFullUptoCard

/-- THE SECOND FORM's CARD OF 'catwalklaw08.IdsPlays'. -/
def idsPlaysUptoCard : Claim7 := { stood := { row := idsPlaysUptoRow, standIns := [], harness := (true, "05335fdca26c8d2c2b09b5404692095989eb63aa4f245e737d32e74694c2a62f"), looks := false }, kinds := [], alts := [], laidByText := true, laidKinds := [.data], laidTests := true, laidLooks := .later }
def IdsPlaysUptoCardSaid : Prop := Claim7.holds Tryd.pinned (.plain (OpenSpec.upto idsPlaysSpec)) idsPlaysUptoCard
end Rows
end Go.Proofs.YtcffgogjhfkaeaaDoor
