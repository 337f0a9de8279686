/-
  DERIVED. GIVEN WITH THE SEED: THE CARDS: each row of YtifeoamomonbjaaGreatDoorRows.lean that lists a variable, with what it lists TIED to the program's text (the seventh form; the later family's looks); each row that meets fmt, with fmt's text TOLD by the authors' own Lean function (tested against real Go, not proved from fmt's source: count such statements apart). THE CARD IS WHAT COUNTS. Prove the row's statement (the work); the ties are given (YtifeoamomonbjaaGreatDoorTie.lean); close each card by the builder's one call (the guide's Derived/Test/ToyasCard.lean, 'card_holds'). Laid BY PROGRAM, IN A SANDBOX (cutbox-door.mjs). By AI agents, Wed Nov 11 2026. No macro, syntax, notation, axiom, sorry.
-/
import Derived.Test.YtifeoamomonbjaaGreatDoorRows
import GoSem.ClaimSeven
namespace Go.Proofs.YtifeoamomonbjaaGreatDoor
namespace Rows

/-- THE TIED CARD OF 'catwalklaw48.RunTells'. -/
def runTellsCard : Claim7 := { stood := { row := runTellsRow, standIns := [], harness := (true, "901cc50742ba28f7a85f0fbe0b9acbf07a76e0441220717c0dfefe906c0e6c09"), looks := true }, kinds := [], alts := [], laidByText := true, laidKinds := [.handle], laidTests := true, laidLooks := .later }
def RunTellsCardSaid : Prop := Claim7.holds Tryz.pinned (.plain (OpenSpec.ofChange runTellsSpec)) runTellsCard

/-- THE SECOND FORM's CARD OF 'catwalklaw48.RunTells'. -/
def runTellsUptoCard : Claim7 := { stood := { row := runTellsUptoRow, standIns := [], harness := (true, "901cc50742ba28f7a85f0fbe0b9acbf07a76e0441220717c0dfefe906c0e6c09"), looks := true }, kinds := [], alts := [], laidByText := true, laidKinds := [.handle], laidTests := true, laidLooks := .later }
def RunTellsUptoCardSaid : Prop := Claim7.holds Tryz.pinned (.plain (OpenSpec.upto runTellsSpec)) runTellsUptoCard
end Rows
end Go.Proofs.YtifeoamomonbjaaGreatDoor
