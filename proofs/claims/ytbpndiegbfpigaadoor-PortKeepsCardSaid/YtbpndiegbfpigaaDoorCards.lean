/-
  DERIVED. GIVEN WITH THE SEED: THE CARDS: each row of YtbpndiegbfpigaaDoorRows.lean that lists a variable, with what it lists TIED to the program's text (the seventh form; the later family's looks); each row that meets fmt, with fmt's text TOLD by the authors' own Lean function (tested against real Go, not proved from fmt's source: count such statements apart). THE CARD IS WHAT COUNTS. Prove the row's statement (the work); the ties are given (YtbpndiegbfpigaaDoorTie.lean); close each card by the builder's one call (the guide's Derived/Test/ToyasCard.lean, 'card_holds'). Laid BY PROGRAM, IN A SANDBOX (cutbox-door.mjs). By AI agents, Wed Nov 11 2026. No macro, syntax, notation, axiom, sorry.
-/
import Derived.Test.YtbpndiegbfpigaaDoorRows
import GoSem.ClaimSeven
namespace Go.Proofs.YtbpndiegbfpigaaDoor
namespace Rows

/-- THE TIED CARD OF 'bulwarklaw22.PortMakes'. -/
def portMakesCard : Claim7 := { stood := { row := portMakesRow, standIns := [], harness := (true, "b2f9c94d799c76dbff7d99040fd5d6623fbbd53311d8aa04b4254e008a24eef0"), looks := true }, kinds := [], alts := [], laidByText := true, laidKinds := [.data, .data, .data], laidTests := true, laidLooks := .later }
def PortMakesCardSaid : Prop := Claim7.holds Tryd.pinned (.plain (OpenSpec.ofChange portMakesSpec)) portMakesCard

/-- THE TIED CARD OF 'bulwarklaw22.PortReads'. -/
def portReadsCard : Claim7 := { stood := { row := portReadsRow, standIns := [], harness := (true, "b2f9c94d799c76dbff7d99040fd5d6623fbbd53311d8aa04b4254e008a24eef0"), looks := true }, kinds := [], alts := [], laidByText := true, laidKinds := [.data, .data, .data, .data, .sentinel, .sentinel, .pinned], laidTests := true, laidLooks := .later }
def PortReadsCardSaid : Prop := Claim7.holds Tryd.pinned (.plain (OpenSpec.ofChange portReadsSpec)) portReadsCard

/-- THE TIED CARD OF 'bulwarklaw22.PortKeeps'. -/
def portKeepsCard : Claim7 := { stood := { row := portKeepsRow, standIns := [], harness := (true, "b2f9c94d799c76dbff7d99040fd5d6623fbbd53311d8aa04b4254e008a24eef0"), looks := true }, kinds := [], alts := [], laidByText := true, laidKinds := [.data, .data, .data, .data, .sentinel, .sentinel, .pinned], laidTests := true, laidLooks := .later }
def PortKeepsCardSaid : Prop := Claim7.holds Tryd.pinned (.plain (OpenSpec.ofChange portKeepsSpec)) portKeepsCard

/-- THE SECOND FORM's CARD OF 'bulwarklaw22.PortMakes'. -/
def portMakesUptoCard : Claim7 := { stood := { row := portMakesUptoRow, standIns := [], harness := (true, "b2f9c94d799c76dbff7d99040fd5d6623fbbd53311d8aa04b4254e008a24eef0"), looks := true }, kinds := [], alts := [], laidByText := true, laidKinds := [.data, .data, .data], laidTests := true, laidLooks := .later }
def PortMakesUptoCardSaid : Prop := Claim7.holds Tryd.pinned (.plain (OpenSpec.upto portMakesSpec)) portMakesUptoCard

/-- THE SECOND FORM's CARD OF 'bulwarklaw22.PortReads'. -/
def portReadsUptoCard : Claim7 := { stood := { row := portReadsUptoRow, standIns := [], harness := (true, "b2f9c94d799c76dbff7d99040fd5d6623fbbd53311d8aa04b4254e008a24eef0"), looks := true }, kinds := [], alts := [], laidByText := true, laidKinds := [.data, .data, .data, .data, .sentinel, .sentinel, .pinned], laidTests := true, laidLooks := .later }
def PortReadsUptoCardSaid : Prop := Claim7.holds Tryd.pinned (.plain (OpenSpec.upto portReadsSpec)) portReadsUptoCard

/-- THE SECOND FORM's CARD OF 'bulwarklaw22.PortKeeps'. -/
def portKeepsUptoCard : Claim7 := { stood := { row := portKeepsUptoRow, standIns := [], harness := (true, "b2f9c94d799c76dbff7d99040fd5d6623fbbd53311d8aa04b4254e008a24eef0"), looks := true }, kinds := [], alts := [], laidByText := true, laidKinds := [.data, .data, .data, .data, .sentinel, .sentinel, .pinned], laidTests := true, laidLooks := .later }
def PortKeepsUptoCardSaid : Prop := Claim7.holds Tryd.pinned (.plain (OpenSpec.upto portKeepsSpec)) portKeepsUptoCard
end Rows
end Go.Proofs.YtbpndiegbfpigaaDoor
