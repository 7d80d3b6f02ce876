/-
  DERIVED. GIVEN WITH THE SEED: THE CARDS: each row of YtjfcghbifhmacaaDoorRows.lean that lists a variable, with what it lists TIED to the program's text (the seventh form; the later family's looks); each row that meets fmt, with fmt's text TOLD by the authors' own Lean function (tested against real Go, not proved from fmt's source: count such statements apart). THE CARD IS WHAT COUNTS. Prove the row's statement (the work); the ties are given (YtjfcghbifhmacaaDoorTie.lean); close each card by the builder's one call (the guide's Derived/Test/ToyasCard.lean, 'card_holds'). Laid BY PROGRAM, IN A SANDBOX (cutbox-door.mjs). By AI agents, Wed Nov 11 2026. No macro, syntax, notation, axiom, sorry.
-/
import Derived.Test.YtjfcghbifhmacaaDoorRows
import GoSem.ClaimSeven
namespace Go.Proofs.YtjfcghbifhmacaaDoor
namespace Rows

/-- THE TIED CARD OF 'bulwarklaw12.GridUnits'. -/
def gridUnitsCard : Claim7 := { stood := { row := gridUnitsRow, standIns := [], harness := (true, "534269c4d09c50d249d4a34a6f5247505c3cd75b20a66c568d0b970b4299ff8b"), looks := true }, kinds := [], alts := [], laidByText := true, laidKinds := [.data, .data], laidTests := true, laidLooks := .later }
def GridUnitsCardSaid : Prop := Claim7.holds Tryd.pinned (.plain (OpenSpec.ofChange gridUnitsSpec)) gridUnitsCard

/-- THE TIED CARD OF 'bulwarklaw12.GridRises'. -/
def gridRisesCard : Claim7 := { stood := { row := gridRisesRow, standIns := [], harness := (true, "534269c4d09c50d249d4a34a6f5247505c3cd75b20a66c568d0b970b4299ff8b"), looks := true }, kinds := [], alts := [], laidByText := true, laidKinds := [.data, .data], laidTests := true, laidLooks := .later }
def GridRisesCardSaid : Prop := Claim7.holds Tryd.pinned (.plain (OpenSpec.ofChange gridRisesSpec)) gridRisesCard

/-- THE TIED CARD OF 'bulwarklaw12.GridPoints'. -/
def gridPointsCard : Claim7 := { stood := { row := gridPointsRow, standIns := [], harness := (true, "534269c4d09c50d249d4a34a6f5247505c3cd75b20a66c568d0b970b4299ff8b"), looks := true }, kinds := [], alts := [], laidByText := true, laidKinds := [.data, .data], laidTests := true, laidLooks := .later }
def GridPointsCardSaid : Prop := Claim7.holds Tryd.pinned (.plain (OpenSpec.ofChange gridPointsSpec)) gridPointsCard

/-- THE TIED CARD OF 'bulwarklaw12.GridWorst'. -/
def gridWorstCard : Claim7 := { stood := { row := gridWorstRow, standIns := [], harness := (true, "534269c4d09c50d249d4a34a6f5247505c3cd75b20a66c568d0b970b4299ff8b"), looks := true }, kinds := [], alts := [], laidByText := true, laidKinds := [.data, .data], laidTests := true, laidLooks := .later }
def GridWorstCardSaid : Prop := Claim7.holds Tryd.pinned (.plain (OpenSpec.ofChange gridWorstSpec)) gridWorstCard

/-- THE TIED CARD OF 'bulwarklaw12.GridBounds'. -/
def gridBoundsCard : Claim7 := { stood := { row := gridBoundsRow, standIns := [], harness := (true, "534269c4d09c50d249d4a34a6f5247505c3cd75b20a66c568d0b970b4299ff8b"), looks := true }, kinds := [], alts := [], laidByText := true, laidKinds := [.data, .data], laidTests := true, laidLooks := .later }
def GridBoundsCardSaid : Prop := Claim7.holds Tryd.pinned (.plain (OpenSpec.ofChange gridBoundsSpec)) gridBoundsCard

/-- THE SECOND FORM's CARD OF 'bulwarklaw12.GridUnits'. -/
def gridUnitsUptoCard : Claim7 := { stood := { row := gridUnitsUptoRow, standIns := [], harness := (true, "534269c4d09c50d249d4a34a6f5247505c3cd75b20a66c568d0b970b4299ff8b"), looks := true }, kinds := [], alts := [], laidByText := true, laidKinds := [.data, .data], laidTests := true, laidLooks := .later }
def GridUnitsUptoCardSaid : Prop := Claim7.holds Tryd.pinned (.plain (OpenSpec.upto gridUnitsSpec)) gridUnitsUptoCard

/-- THE SECOND FORM's CARD OF 'bulwarklaw12.GridRises'. -/
def gridRisesUptoCard : Claim7 := { stood := { row := gridRisesUptoRow, standIns := [], harness := (true, "534269c4d09c50d249d4a34a6f5247505c3cd75b20a66c568d0b970b4299ff8b"), looks := true }, kinds := [], alts := [], laidByText := true, laidKinds := [.data, .data], laidTests := true, laidLooks := .later }
def GridRisesUptoCardSaid : Prop := Claim7.holds Tryd.pinned (.plain (OpenSpec.upto gridRisesSpec)) gridRisesUptoCard

/-- THE SECOND FORM's CARD OF 'bulwarklaw12.GridPoints'. -/
def gridPointsUptoCard : Claim7 := { stood := { row := gridPointsUptoRow, standIns := [], harness := (true, "534269c4d09c50d249d4a34a6f5247505c3cd75b20a66c568d0b970b4299ff8b"), looks := true }, kinds := [], alts := [], laidByText := true, laidKinds := [.data, .data], laidTests := true, laidLooks := .later }
def GridPointsUptoCardSaid : Prop := Claim7.holds Tryd.pinned (.plain (OpenSpec.upto gridPointsSpec)) gridPointsUptoCard

/-- THE SECOND FORM's CARD OF 'bulwarklaw12.GridWorst'. -/
def gridWorstUptoCard : Claim7 := { stood := { row := gridWorstUptoRow, standIns := [], harness := (true, "534269c4d09c50d249d4a34a6f5247505c3cd75b20a66c568d0b970b4299ff8b"), looks := true }, kinds := [], alts := [], laidByText := true, laidKinds := [.data, .data], laidTests := true, laidLooks := .later }
def GridWorstUptoCardSaid : Prop := Claim7.holds Tryd.pinned (.plain (OpenSpec.upto gridWorstSpec)) gridWorstUptoCard

/-- THE SECOND FORM's CARD OF 'bulwarklaw12.GridBounds'. -/
def gridBoundsUptoCard : Claim7 := { stood := { row := gridBoundsUptoRow, standIns := [], harness := (true, "534269c4d09c50d249d4a34a6f5247505c3cd75b20a66c568d0b970b4299ff8b"), looks := true }, kinds := [], alts := [], laidByText := true, laidKinds := [.data, .data], laidTests := true, laidLooks := .later }
def GridBoundsUptoCardSaid : Prop := Claim7.holds Tryd.pinned (.plain (OpenSpec.upto gridBoundsSpec)) gridBoundsUptoCard
end Rows
end Go.Proofs.YtjfcghbifhmacaaDoor
