/-
  DERIVED. GIVEN WITH THE SEED: THE CARDS: each row of YtokinnkagdjciaaDoorRows.lean that lists a variable, with what it lists TIED to the program's text (the seventh form; the later family's looks); each row that meets fmt, with fmt's text TOLD by the authors' own Lean function (tested against real Go, not proved from fmt's source: count such statements apart). THE CARD IS WHAT COUNTS. Prove the row's statement (the work); the ties are given (YtokinnkagdjciaaDoorTie.lean); close each card by the builder's one call (the guide's Derived/Test/ToyasCard.lean, 'card_holds'). Laid BY PROGRAM, IN A SANDBOX (cutbox-door.mjs). By AI agents, Wed Nov 11 2026. No macro, syntax, notation, axiom, sorry.
-/
import Derived.Test.YtokinnkagdjciaaDoorRows
import GoSem.ClaimSeven
namespace Go.Proofs.YtokinnkagdjciaaDoor
namespace Rows

/-- THE TIED CARD OF 'bulwarklaw07.TagBack'. -/
def tagBackCard : Claim7 := { stood := { row := tagBackRow, standIns := [], harness := (true, "40d5b65d39ee52a506e7303b2aa672ba9665f6493dd1cb8aa887be3d142099bd"), looks := true }, kinds := [], alts := [], laidByText := true, laidKinds := [.data, .data, .data, .data, .sentinel, .sentinel, .sentinel, .pinned], laidTests := true, laidLooks := .later }
def TagBackCardSaid : Prop := Claim7.holds Tryd.pinned (.plain (OpenSpec.ofChange tagBackSpec)) tagBackCard

/-- THE TIED CARD OF 'bulwarklaw07.TagTells'. -/
def tagTellsCard : Claim7 := { stood := { row := tagTellsRow, standIns := [], harness := (true, "40d5b65d39ee52a506e7303b2aa672ba9665f6493dd1cb8aa887be3d142099bd"), looks := true }, kinds := [], alts := [], laidByText := true, laidKinds := [.data, .data, .data, .data, .sentinel, .sentinel, .sentinel, .pinned], laidTests := true, laidLooks := .later }
def TagTellsCardSaid : Prop := Claim7.holds Tryd.pinned (.plain (OpenSpec.ofChange tagTellsSpec)) tagTellsCard

/-- THE TIED CARD OF 'bulwarklaw07.TagKeeps'. -/
def tagKeepsCard : Claim7 := { stood := { row := tagKeepsRow, standIns := [], harness := (true, "40d5b65d39ee52a506e7303b2aa672ba9665f6493dd1cb8aa887be3d142099bd"), looks := true }, kinds := [], alts := [], laidByText := true, laidKinds := [.data, .data, .data, .data, .sentinel, .sentinel, .sentinel, .pinned], laidTests := true, laidLooks := .later }
def TagKeepsCardSaid : Prop := Claim7.holds Tryd.pinned (.plain (OpenSpec.ofChange tagKeepsSpec)) tagKeepsCard

/-- THE TIED CARD OF 'bulwarklaw07.TagPieces'. -/
def tagPiecesCard : Claim7 := { stood := { row := tagPiecesRow, standIns := [], harness := (true, "40d5b65d39ee52a506e7303b2aa672ba9665f6493dd1cb8aa887be3d142099bd"), looks := true }, kinds := [], alts := [], laidByText := true, laidKinds := [.data, .data, .data, .data, .sentinel, .sentinel, .sentinel, .pinned], laidTests := true, laidLooks := .later }
def TagPiecesCardSaid : Prop := Claim7.holds Tryd.pinned (.plain (OpenSpec.ofChange tagPiecesSpec)) tagPiecesCard

/-- THE SECOND FORM's CARD OF 'bulwarklaw07.TagBack'. -/
def tagBackUptoCard : Claim7 := { stood := { row := tagBackUptoRow, standIns := [], harness := (true, "40d5b65d39ee52a506e7303b2aa672ba9665f6493dd1cb8aa887be3d142099bd"), looks := true }, kinds := [], alts := [], laidByText := true, laidKinds := [.data, .data, .data, .data, .sentinel, .sentinel, .sentinel, .pinned], laidTests := true, laidLooks := .later }
def TagBackUptoCardSaid : Prop := Claim7.holds Tryd.pinned (.plain (OpenSpec.upto tagBackSpec)) tagBackUptoCard

/-- THE SECOND FORM's CARD OF 'bulwarklaw07.TagTells'. -/
def tagTellsUptoCard : Claim7 := { stood := { row := tagTellsUptoRow, standIns := [], harness := (true, "40d5b65d39ee52a506e7303b2aa672ba9665f6493dd1cb8aa887be3d142099bd"), looks := true }, kinds := [], alts := [], laidByText := true, laidKinds := [.data, .data, .data, .data, .sentinel, .sentinel, .sentinel, .pinned], laidTests := true, laidLooks := .later }
def TagTellsUptoCardSaid : Prop := Claim7.holds Tryd.pinned (.plain (OpenSpec.upto tagTellsSpec)) tagTellsUptoCard

/-- THE SECOND FORM's CARD OF 'bulwarklaw07.TagKeeps'. -/
def tagKeepsUptoCard : Claim7 := { stood := { row := tagKeepsUptoRow, standIns := [], harness := (true, "40d5b65d39ee52a506e7303b2aa672ba9665f6493dd1cb8aa887be3d142099bd"), looks := true }, kinds := [], alts := [], laidByText := true, laidKinds := [.data, .data, .data, .data, .sentinel, .sentinel, .sentinel, .pinned], laidTests := true, laidLooks := .later }
def TagKeepsUptoCardSaid : Prop := Claim7.holds Tryd.pinned (.plain (OpenSpec.upto tagKeepsSpec)) tagKeepsUptoCard

/-- THE SECOND FORM's CARD OF 'bulwarklaw07.TagPieces'. -/
def tagPiecesUptoCard : Claim7 := { stood := { row := tagPiecesUptoRow, standIns := [], harness := (true, "40d5b65d39ee52a506e7303b2aa672ba9665f6493dd1cb8aa887be3d142099bd"), looks := true }, kinds := [], alts := [], laidByText := true, laidKinds := [.data, .data, .data, .data, .sentinel, .sentinel, .sentinel, .pinned], laidTests := true, laidLooks := .later }
def TagPiecesUptoCardSaid : Prop := Claim7.holds Tryd.pinned (.plain (OpenSpec.upto tagPiecesSpec)) tagPiecesUptoCard
end Rows
end Go.Proofs.YtokinnkagdjciaaDoor
