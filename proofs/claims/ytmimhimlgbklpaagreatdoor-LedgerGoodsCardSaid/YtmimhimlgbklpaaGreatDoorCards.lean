/-
  DERIVED. GIVEN WITH THE SEED: THE CARDS: each row of YtmimhimlgbklpaaGreatDoorRows.lean that lists a variable, with what it lists TIED to the program's text (the seventh form; the later family's looks); each row that meets fmt, with fmt's text TOLD by the authors' own Lean function (tested against real Go, not proved from fmt's source: count such statements apart). THE CARD IS WHAT COUNTS. Prove the row's statement (the work); the ties are given (YtmimhimlgbklpaaGreatDoorTie.lean); close each card by the builder's one call (the guide's Derived/Test/ToyasCard.lean, 'card_holds'). Laid BY PROGRAM, IN A SANDBOX (cutbox-door.mjs). By AI agents, Wed Nov 11 2026. No macro, syntax, notation, axiom, sorry.
-/
import Derived.Test.YtmimhimlgbklpaaGreatDoorRows
import GoSem.ClaimSeven
namespace Go.Proofs.YtmimhimlgbklpaaGreatDoor
namespace Rows

/-- THE TIED CARD OF 'bulwarklaw15.LedgerGoods'. -/
def ledgerGoodsCard : Claim7 := { stood := { row := ledgerGoodsRow, standIns := [], harness := (true, "63f64d5a6e4e7f91478dff3aff3f4c9c758df1e711619fdfc0a186552138c492"), looks := false }, kinds := [], alts := [], laidByText := true, laidKinds := [.data, .pinned], laidTests := true, laidLooks := .later }
def LedgerGoodsCardSaid : Prop := Claim7.holds Tryz.pinned (.plain (OpenSpec.ofChange ledgerGoodsSpec)) ledgerGoodsCard

/-- THE SECOND FORM's CARD OF 'bulwarklaw15.LedgerGoods'. -/
def ledgerGoodsUptoCard : Claim7 := { stood := { row := ledgerGoodsUptoRow, standIns := [], harness := (true, "63f64d5a6e4e7f91478dff3aff3f4c9c758df1e711619fdfc0a186552138c492"), looks := false }, kinds := [], alts := [], laidByText := true, laidKinds := [.data, .pinned], laidTests := true, laidLooks := .later }
def LedgerGoodsUptoCardSaid : Prop := Claim7.holds Tryz.pinned (.plain (OpenSpec.upto ledgerGoodsSpec)) ledgerGoodsUptoCard
end Rows
end Go.Proofs.YtmimhimlgbklpaaGreatDoor
