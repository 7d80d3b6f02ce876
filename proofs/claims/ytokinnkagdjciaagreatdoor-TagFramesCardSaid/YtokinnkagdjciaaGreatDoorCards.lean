/-
  DERIVED. GIVEN WITH THE SEED: THE CARDS: each row of YtokinnkagdjciaaGreatDoorRows.lean that lists a variable, with what it lists TIED to the program's text (the seventh form; the later family's looks); each row that meets fmt, with fmt's text TOLD by the authors' own Lean function (tested against real Go, not proved from fmt's source: count such statements apart). THE CARD IS WHAT COUNTS. Prove the row's statement (the work); the ties are given (YtokinnkagdjciaaGreatDoorTie.lean); close each card by the builder's one call (the guide's Derived/Test/ToyasCard.lean, 'card_holds'). Laid BY PROGRAM, IN A SANDBOX (cutbox-door.mjs). By AI agents, Wed Nov 11 2026. No macro, syntax, notation, axiom, sorry.
-/
import Derived.Test.YtokinnkagdjciaaGreatDoorRows
import GoSem.ClaimSeven
namespace Go.Proofs.YtokinnkagdjciaaGreatDoor
namespace Rows

/-- THE TIED CARD OF 'bulwarklaw07.TagReads'. -/
def tagReadsCard : Claim7 := { stood := { row := tagReadsRow, standIns := [], harness := (true, "b27f8ddf4deb6b8de72281deb6b8808766d283992c0b09db4a13e76c8780609d"), looks := true }, kinds := [], alts := [], laidByText := true, laidKinds := [.data, .data, .data, .data, .sentinel, .sentinel, .sentinel, .pinned], laidTests := true, laidLooks := .later }
def TagReadsCardSaid : Prop := Claim7.holds Tryz.pinned (.plain (OpenSpec.ofChange tagReadsSpec)) tagReadsCard

/-- THE TIED CARD OF 'bulwarklaw07.TagFrames'. -/
def tagFramesCard : Claim7 := { stood := { row := tagFramesRow, standIns := [], harness := (true, "b27f8ddf4deb6b8de72281deb6b8808766d283992c0b09db4a13e76c8780609d"), looks := true }, kinds := [], alts := [], laidByText := true, laidKinds := [.data, .data, .data, .data, .sentinel, .sentinel, .sentinel, .pinned], laidTests := true, laidLooks := .later }
def TagFramesCardSaid : Prop := Claim7.holds Tryz.pinned (.plain (OpenSpec.ofChange tagFramesSpec)) tagFramesCard

/-- THE SECOND FORM's CARD OF 'bulwarklaw07.TagReads'. -/
def tagReadsUptoCard : Claim7 := { stood := { row := tagReadsUptoRow, standIns := [], harness := (true, "b27f8ddf4deb6b8de72281deb6b8808766d283992c0b09db4a13e76c8780609d"), looks := true }, kinds := [], alts := [], laidByText := true, laidKinds := [.data, .data, .data, .data, .sentinel, .sentinel, .sentinel, .pinned], laidTests := true, laidLooks := .later }
def TagReadsUptoCardSaid : Prop := Claim7.holds Tryz.pinned (.plain (OpenSpec.upto tagReadsSpec)) tagReadsUptoCard

/-- THE SECOND FORM's CARD OF 'bulwarklaw07.TagFrames'. -/
def tagFramesUptoCard : Claim7 := { stood := { row := tagFramesUptoRow, standIns := [], harness := (true, "b27f8ddf4deb6b8de72281deb6b8808766d283992c0b09db4a13e76c8780609d"), looks := true }, kinds := [], alts := [], laidByText := true, laidKinds := [.data, .data, .data, .data, .sentinel, .sentinel, .sentinel, .pinned], laidTests := true, laidLooks := .later }
def TagFramesUptoCardSaid : Prop := Claim7.holds Tryz.pinned (.plain (OpenSpec.upto tagFramesSpec)) tagFramesUptoCard
end Rows
end Go.Proofs.YtokinnkagdjciaaGreatDoor
