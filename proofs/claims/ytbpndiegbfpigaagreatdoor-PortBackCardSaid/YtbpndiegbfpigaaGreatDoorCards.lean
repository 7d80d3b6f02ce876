/-
  DERIVED. GIVEN WITH THE SEED: THE CARDS: each row of YtbpndiegbfpigaaGreatDoorRows.lean that lists a variable, with what it lists TIED to the program's text (the seventh form; the later family's looks); each row that meets fmt, with fmt's text TOLD by the authors' own Lean function (tested against real Go, not proved from fmt's source: count such statements apart). THE CARD IS WHAT COUNTS. Prove the row's statement (the work); the ties are given (YtbpndiegbfpigaaGreatDoorTie.lean); close each card by the builder's one call (the guide's Derived/Test/ToyasCard.lean, 'card_holds'). Laid BY PROGRAM, IN A SANDBOX (cutbox-door.mjs). By AI agents, Wed Nov 11 2026. No macro, syntax, notation, axiom, sorry.
-/
import Derived.Test.YtbpndiegbfpigaaGreatDoorRows
import GoSem.ClaimSeven
namespace Go.Proofs.YtbpndiegbfpigaaGreatDoor
namespace Rows

/-- THE TIED CARD OF 'bulwarklaw22.PortBack'. -/
def portBackCard : Claim7 := { stood := { row := portBackRow, standIns := [], harness := (true, "b7544fb6ba48e97ff9402c9eac64e83e391c06d72381727894394266b3f6b9d0"), looks := true }, kinds := [], alts := [], laidByText := true, laidKinds := [.data, .data, .data, .data, .sentinel, .sentinel, .sentinel, .pinned], laidTests := true, laidLooks := .later }
def PortBackCardSaid : Prop := Claim7.holds Tryz.pinned (.plain (OpenSpec.ofChange portBackSpec)) portBackCard

/-- THE TIED CARD OF 'bulwarklaw22.PortReplies'. -/
def portRepliesCard : Claim7 := { stood := { row := portRepliesRow, standIns := [], harness := (true, "b7544fb6ba48e97ff9402c9eac64e83e391c06d72381727894394266b3f6b9d0"), looks := true }, kinds := [], alts := [], laidByText := true, laidKinds := [.data, .data, .data, .data, .sentinel, .sentinel, .sentinel, .pinned], laidTests := true, laidLooks := .later }
def PortRepliesCardSaid : Prop := Claim7.holds Tryz.pinned (.plain (OpenSpec.ofChange portRepliesSpec)) portRepliesCard

/-- THE SECOND FORM's CARD OF 'bulwarklaw22.PortBack'. -/
def portBackUptoCard : Claim7 := { stood := { row := portBackUptoRow, standIns := [], harness := (true, "b7544fb6ba48e97ff9402c9eac64e83e391c06d72381727894394266b3f6b9d0"), looks := true }, kinds := [], alts := [], laidByText := true, laidKinds := [.data, .data, .data, .data, .sentinel, .sentinel, .sentinel, .pinned], laidTests := true, laidLooks := .later }
def PortBackUptoCardSaid : Prop := Claim7.holds Tryz.pinned (.plain (OpenSpec.upto portBackSpec)) portBackUptoCard

/-- THE SECOND FORM's CARD OF 'bulwarklaw22.PortReplies'. -/
def portRepliesUptoCard : Claim7 := { stood := { row := portRepliesUptoRow, standIns := [], harness := (true, "b7544fb6ba48e97ff9402c9eac64e83e391c06d72381727894394266b3f6b9d0"), looks := true }, kinds := [], alts := [], laidByText := true, laidKinds := [.data, .data, .data, .data, .sentinel, .sentinel, .sentinel, .pinned], laidTests := true, laidLooks := .later }
def PortRepliesUptoCardSaid : Prop := Claim7.holds Tryz.pinned (.plain (OpenSpec.upto portRepliesSpec)) portRepliesUptoCard
end Rows
end Go.Proofs.YtbpndiegbfpigaaGreatDoor
