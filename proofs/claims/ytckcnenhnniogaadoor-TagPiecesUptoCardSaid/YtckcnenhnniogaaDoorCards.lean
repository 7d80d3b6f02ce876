/-
  DERIVED. GIVEN WITH THE SEED: THE CARDS: each row of YtckcnenhnniogaaDoorRows.lean that lists a variable, with what it lists TIED to the program's text (the seventh form; the later family's looks); each row that meets fmt, with fmt's text TOLD by the authors' own Lean function (tested against real Go, not proved from fmt's source: count such statements apart). THE CARD IS WHAT COUNTS. Prove the row's statement (the work); the ties are given (YtckcnenhnniogaaDoorTie.lean); close each card by the builder's one call (the guide's Derived/Test/ToyasCard.lean, 'card_holds'). Laid BY PROGRAM, IN A SANDBOX (cutbox-door.mjs). By AI agents, Wed Nov 11 2026. No macro, syntax, notation, axiom, sorry.
-/
import Derived.Test.YtckcnenhnniogaaDoorRows
import GoSem.ClaimSeven
namespace Go.Proofs.YtckcnenhnniogaaDoor
namespace Rows

/-- THE TIED CARD OF 'bulwarklaw07.TagPieces'. -/
def tagPiecesCard : Claim7 := { stood := { row := tagPiecesRow, standIns := [], harness := (true, "85126ca249e9b5bce3a1ec92c43565aa469f2d7aed8f034b422292cf1c62b7c2"), looks := true }, kinds := [], alts := [], laidByText := true, laidKinds := [.data, .data, .data, .data, .sentinel, .sentinel, .sentinel, .pinned], laidTests := true, laidLooks := .later }
def TagPiecesCardSaid : Prop := Claim7.holds Tryd.pinned (.plain (OpenSpec.ofChange tagPiecesSpec)) tagPiecesCard

/-- THE SECOND FORM's CARD OF 'bulwarklaw07.TagPieces'. -/
def tagPiecesUptoCard : Claim7 := { stood := { row := tagPiecesUptoRow, standIns := [], harness := (true, "85126ca249e9b5bce3a1ec92c43565aa469f2d7aed8f034b422292cf1c62b7c2"), looks := true }, kinds := [], alts := [], laidByText := true, laidKinds := [.data, .data, .data, .data, .sentinel, .sentinel, .sentinel, .pinned], laidTests := true, laidLooks := .later }
def TagPiecesUptoCardSaid : Prop := Claim7.holds Tryd.pinned (.plain (OpenSpec.upto tagPiecesSpec)) tagPiecesUptoCard
end Rows
end Go.Proofs.YtckcnenhnniogaaDoor
