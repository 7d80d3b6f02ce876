/-
  DERIVED. GIVEN WITH THE SEED: THE CARDS: each row of YtddhcemdkhhikaaDoorRows.lean that lists a variable, with what it lists TIED to the program's text (the seventh form; the later family's looks); each row that meets fmt, with fmt's text TOLD by the authors' own Lean function (tested against real Go, not proved from fmt's source: count such statements apart). THE CARD IS WHAT COUNTS. Prove the row's statement (the work); the ties are given (YtddhcemdkhhikaaDoorTie.lean); close each card by the builder's one call (the guide's Derived/Test/ToyasCard.lean, 'card_holds'). Laid BY PROGRAM, IN A SANDBOX (cutbox-door.mjs). By AI agents, Wed Nov 11 2026. No macro, syntax, notation, axiom, sorry.
-/
import Derived.Test.YtddhcemdkhhikaaDoorRows
import GoSem.ClaimSeven
namespace Go.Proofs.YtddhcemdkhhikaaDoor
namespace Rows

/-- THE TIED CARD OF 'bulwarklaw03.SumExact'. -/
def sumExactCard : Claim7 := { stood := { row := sumExactRow, standIns := [], harness := (true, "23e02d508009ea9f920483065a5db1795f30a86075def6e14e5e3c0c754196a3"), looks := false }, kinds := [], alts := [], laidByText := true, laidKinds := [.data], laidTests := true, laidLooks := .later }
def SumExactCardSaid : Prop := Claim7.holds Tryd.pinned (.plain (OpenSpec.ofChange sumExactSpec)) sumExactCard

/-- THE TIED CARD OF 'bulwarklaw03.SumTells'. -/
def sumTellsCard : Claim7 := { stood := { row := sumTellsRow, standIns := [], harness := (true, "23e02d508009ea9f920483065a5db1795f30a86075def6e14e5e3c0c754196a3"), looks := false }, kinds := [], alts := [], laidByText := true, laidKinds := [.data], laidTests := true, laidLooks := .later }
def SumTellsCardSaid : Prop := Claim7.holds Tryd.pinned (.plain (OpenSpec.ofChange sumTellsSpec)) sumTellsCard

/-- THE TIED CARD OF 'bulwarklaw03.SumTurns'. -/
def sumTurnsCard : Claim7 := { stood := { row := sumTurnsRow, standIns := [], harness := (true, "23e02d508009ea9f920483065a5db1795f30a86075def6e14e5e3c0c754196a3"), looks := false }, kinds := [], alts := [], laidByText := true, laidKinds := [.data], laidTests := true, laidLooks := .later }
def SumTurnsCardSaid : Prop := Claim7.holds Tryd.pinned (.plain (OpenSpec.ofChange sumTurnsSpec)) sumTurnsCard

/-- THE TIED CARD OF 'bulwarklaw03.SumKeeps'. -/
def sumKeepsCard : Claim7 := { stood := { row := sumKeepsRow, standIns := [], harness := (true, "23e02d508009ea9f920483065a5db1795f30a86075def6e14e5e3c0c754196a3"), looks := false }, kinds := [], alts := [], laidByText := true, laidKinds := [.data], laidTests := true, laidLooks := .later }
def SumKeepsCardSaid : Prop := Claim7.holds Tryd.pinned (.plain (OpenSpec.ofChange sumKeepsSpec)) sumKeepsCard

/-- THE SECOND FORM's CARD OF 'bulwarklaw03.SumExact'. -/
def sumExactUptoCard : Claim7 := { stood := { row := sumExactUptoRow, standIns := [], harness := (true, "23e02d508009ea9f920483065a5db1795f30a86075def6e14e5e3c0c754196a3"), looks := false }, kinds := [], alts := [], laidByText := true, laidKinds := [.data], laidTests := true, laidLooks := .later }
def SumExactUptoCardSaid : Prop := Claim7.holds Tryd.pinned (.plain (OpenSpec.upto sumExactSpec)) sumExactUptoCard

/-- THE SECOND FORM's CARD OF 'bulwarklaw03.SumTells'. -/
def sumTellsUptoCard : Claim7 := { stood := { row := sumTellsUptoRow, standIns := [], harness := (true, "23e02d508009ea9f920483065a5db1795f30a86075def6e14e5e3c0c754196a3"), looks := false }, kinds := [], alts := [], laidByText := true, laidKinds := [.data], laidTests := true, laidLooks := .later }
def SumTellsUptoCardSaid : Prop := Claim7.holds Tryd.pinned (.plain (OpenSpec.upto sumTellsSpec)) sumTellsUptoCard

/-- THE SECOND FORM's CARD OF 'bulwarklaw03.SumTurns'. -/
def sumTurnsUptoCard : Claim7 := { stood := { row := sumTurnsUptoRow, standIns := [], harness := (true, "23e02d508009ea9f920483065a5db1795f30a86075def6e14e5e3c0c754196a3"), looks := false }, kinds := [], alts := [], laidByText := true, laidKinds := [.data], laidTests := true, laidLooks := .later }
def SumTurnsUptoCardSaid : Prop := Claim7.holds Tryd.pinned (.plain (OpenSpec.upto sumTurnsSpec)) sumTurnsUptoCard

/-- THE SECOND FORM's CARD OF 'bulwarklaw03.SumKeeps'. -/
def sumKeepsUptoCard : Claim7 := { stood := { row := sumKeepsUptoRow, standIns := [], harness := (true, "23e02d508009ea9f920483065a5db1795f30a86075def6e14e5e3c0c754196a3"), looks := false }, kinds := [], alts := [], laidByText := true, laidKinds := [.data], laidTests := true, laidLooks := .later }
def SumKeepsUptoCardSaid : Prop := Claim7.holds Tryd.pinned (.plain (OpenSpec.upto sumKeepsSpec)) sumKeepsUptoCard
end Rows
end Go.Proofs.YtddhcemdkhhikaaDoor
