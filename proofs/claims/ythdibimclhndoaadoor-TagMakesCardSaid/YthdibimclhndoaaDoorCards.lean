/-
  DERIVED. GIVEN WITH THE SEED: THE CARDS: each row of YthdibimclhndoaaDoorRows.lean that lists a variable, with what it lists TIED to the program's text (the seventh form; the later family's looks); each row that meets fmt, with fmt's text TOLD by the authors' own Lean function (tested against real Go, not proved from fmt's source: count such statements apart). THE CARD IS WHAT COUNTS. Prove the row's statement (the work); the ties are given (YthdibimclhndoaaDoorTie.lean); close each card by the builder's one call (the guide's Derived/Test/ToyasCard.lean, 'card_holds'). Laid BY PROGRAM, IN A SANDBOX (cutbox-door.mjs). By AI agents, Wed Nov 11 2026. No macro, syntax, notation, axiom, sorry.
-/
import Derived.Test.YthdibimclhndoaaDoorRows
import GoSem.ClaimSeven
namespace Go.Proofs.YthdibimclhndoaaDoor
namespace Rows

/-- THE TIED CARD OF 'bulwarklaw07.TagMakes'. -/
def tagMakesCard : Claim7 := { stood := { row := tagMakesRow, standIns := [], harness := (true, "cf8efc59a9012b92708f53362c762960d4c8f35f5e0925d5dade8ad1e245da3d"), looks := false }, kinds := [], alts := [], laidByText := true, laidKinds := [.data, .data, .data, .sentinel], laidTests := true, laidLooks := .later }
def TagMakesCardSaid : Prop := Claim7.holds Tryd.pinned (.plain (OpenSpec.ofChange tagMakesSpec)) tagMakesCard

/-- THE SECOND FORM's CARD OF 'bulwarklaw07.TagMakes'. -/
def tagMakesUptoCard : Claim7 := { stood := { row := tagMakesUptoRow, standIns := [], harness := (true, "cf8efc59a9012b92708f53362c762960d4c8f35f5e0925d5dade8ad1e245da3d"), looks := false }, kinds := [], alts := [], laidByText := true, laidKinds := [.data, .data, .data, .sentinel], laidTests := true, laidLooks := .later }
def TagMakesUptoCardSaid : Prop := Claim7.holds Tryd.pinned (.plain (OpenSpec.upto tagMakesSpec)) tagMakesUptoCard
end Rows
end Go.Proofs.YthdibimclhndoaaDoor
