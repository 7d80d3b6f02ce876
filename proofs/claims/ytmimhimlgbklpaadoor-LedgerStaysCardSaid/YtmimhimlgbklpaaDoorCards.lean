/-
  DERIVED. GIVEN WITH THE SEED: THE CARDS: each row of YtmimhimlgbklpaaDoorRows.lean that lists a variable, with what it lists TIED to the program's text (the seventh form; the later family's looks); each row that meets fmt, with fmt's text TOLD by the authors' own Lean function (tested against real Go, not proved from fmt's source: count such statements apart). THE CARD IS WHAT COUNTS. Prove the row's statement (the work); the ties are given (YtmimhimlgbklpaaDoorTie.lean); close each card by the builder's one call (the guide's Derived/Test/ToyasCard.lean, 'card_holds'). Laid BY PROGRAM, IN A SANDBOX (cutbox-door.mjs). By AI agents, Wed Nov 11 2026. No macro, syntax, notation, axiom, sorry.
-/
import Derived.Test.YtmimhimlgbklpaaDoorRows
import GoSem.ClaimSeven
namespace Go.Proofs.YtmimhimlgbklpaaDoor
namespace Rows

/-- THE TIED CARD OF 'bulwarklaw15.LedgerNames'. -/
def ledgerNamesCard : Claim7 := { stood := { row := ledgerNamesRow, standIns := [], harness := (true, "f2542d8264582a42818813b41316873da353539fa0ea25da838e76d33b389acc"), looks := false }, kinds := [], alts := [], laidByText := true, laidKinds := [.data, .pinned], laidTests := true, laidLooks := .later }
def LedgerNamesCardSaid : Prop := Claim7.holds Tryd.pinned (.plain (OpenSpec.ofChange ledgerNamesSpec)) ledgerNamesCard

/-- THE TIED CARD OF 'bulwarklaw15.LedgerKeeps'. -/
def ledgerKeepsCard : Claim7 := { stood := { row := ledgerKeepsRow, standIns := [], harness := (true, "f2542d8264582a42818813b41316873da353539fa0ea25da838e76d33b389acc"), looks := false }, kinds := [], alts := [], laidByText := true, laidKinds := [.data, .pinned], laidTests := true, laidLooks := .later }
def LedgerKeepsCardSaid : Prop := Claim7.holds Tryd.pinned (.plain (OpenSpec.ofChange ledgerKeepsSpec)) ledgerKeepsCard

/-- THE TIED CARD OF 'bulwarklaw15.LedgerPays'. -/
def ledgerPaysCard : Claim7 := { stood := { row := ledgerPaysRow, standIns := [], harness := (true, "f2542d8264582a42818813b41316873da353539fa0ea25da838e76d33b389acc"), looks := false }, kinds := [], alts := [], laidByText := true, laidKinds := [.data, .pinned], laidTests := true, laidLooks := .later }
def LedgerPaysCardSaid : Prop := Claim7.holds Tryd.pinned (.plain (OpenSpec.ofChange ledgerPaysSpec)) ledgerPaysCard

/-- THE TIED CARD OF 'bulwarklaw15.LedgerSames'. -/
def ledgerSamesCard : Claim7 := { stood := { row := ledgerSamesRow, standIns := [], harness := (true, "f2542d8264582a42818813b41316873da353539fa0ea25da838e76d33b389acc"), looks := false }, kinds := [], alts := [], laidByText := true, laidKinds := [.data, .pinned], laidTests := true, laidLooks := .later }
def LedgerSamesCardSaid : Prop := Claim7.holds Tryd.pinned (.plain (OpenSpec.ofChange ledgerSamesSpec)) ledgerSamesCard

/-- THE TIED CARD OF 'bulwarklaw15.LedgerStays'. -/
def ledgerStaysCard : Claim7 := { stood := { row := ledgerStaysRow, standIns := [], harness := (true, "f2542d8264582a42818813b41316873da353539fa0ea25da838e76d33b389acc"), looks := false }, kinds := [], alts := [], laidByText := true, laidKinds := [.data, .pinned], laidTests := true, laidLooks := .later }
def LedgerStaysCardSaid : Prop := Claim7.holds Tryd.pinned (.plain (OpenSpec.ofChange ledgerStaysSpec)) ledgerStaysCard

/-- THE SECOND FORM's CARD OF 'bulwarklaw15.LedgerNames'. -/
def ledgerNamesUptoCard : Claim7 := { stood := { row := ledgerNamesUptoRow, standIns := [], harness := (true, "f2542d8264582a42818813b41316873da353539fa0ea25da838e76d33b389acc"), looks := false }, kinds := [], alts := [], laidByText := true, laidKinds := [.data, .pinned], laidTests := true, laidLooks := .later }
def LedgerNamesUptoCardSaid : Prop := Claim7.holds Tryd.pinned (.plain (OpenSpec.upto ledgerNamesSpec)) ledgerNamesUptoCard

/-- THE SECOND FORM's CARD OF 'bulwarklaw15.LedgerKeeps'. -/
def ledgerKeepsUptoCard : Claim7 := { stood := { row := ledgerKeepsUptoRow, standIns := [], harness := (true, "f2542d8264582a42818813b41316873da353539fa0ea25da838e76d33b389acc"), looks := false }, kinds := [], alts := [], laidByText := true, laidKinds := [.data, .pinned], laidTests := true, laidLooks := .later }
def LedgerKeepsUptoCardSaid : Prop := Claim7.holds Tryd.pinned (.plain (OpenSpec.upto ledgerKeepsSpec)) ledgerKeepsUptoCard

/-- THE SECOND FORM's CARD OF 'bulwarklaw15.LedgerPays'. -/
def ledgerPaysUptoCard : Claim7 := { stood := { row := ledgerPaysUptoRow, standIns := [], harness := (true, "f2542d8264582a42818813b41316873da353539fa0ea25da838e76d33b389acc"), looks := false }, kinds := [], alts := [], laidByText := true, laidKinds := [.data, .pinned], laidTests := true, laidLooks := .later }
def LedgerPaysUptoCardSaid : Prop := Claim7.holds Tryd.pinned (.plain (OpenSpec.upto ledgerPaysSpec)) ledgerPaysUptoCard

/-- THE SECOND FORM's CARD OF 'bulwarklaw15.LedgerSames'. -/
def ledgerSamesUptoCard : Claim7 := { stood := { row := ledgerSamesUptoRow, standIns := [], harness := (true, "f2542d8264582a42818813b41316873da353539fa0ea25da838e76d33b389acc"), looks := false }, kinds := [], alts := [], laidByText := true, laidKinds := [.data, .pinned], laidTests := true, laidLooks := .later }
def LedgerSamesUptoCardSaid : Prop := Claim7.holds Tryd.pinned (.plain (OpenSpec.upto ledgerSamesSpec)) ledgerSamesUptoCard

/-- THE SECOND FORM's CARD OF 'bulwarklaw15.LedgerStays'. -/
def ledgerStaysUptoCard : Claim7 := { stood := { row := ledgerStaysUptoRow, standIns := [], harness := (true, "f2542d8264582a42818813b41316873da353539fa0ea25da838e76d33b389acc"), looks := false }, kinds := [], alts := [], laidByText := true, laidKinds := [.data, .pinned], laidTests := true, laidLooks := .later }
def LedgerStaysUptoCardSaid : Prop := Claim7.holds Tryd.pinned (.plain (OpenSpec.upto ledgerStaysSpec)) ledgerStaysUptoCard
end Rows
end Go.Proofs.YtmimhimlgbklpaaDoor
