/-
  DERIVED. GIVEN WITH THE SEED: THE CARDS: each row of YtghcbkkabhlchaaDoorRows.lean that lists a variable, with what it lists TIED to the program's text (the seventh form; the later family's looks); each row that meets fmt, with fmt's text TOLD by the authors' own Lean function (tested against real Go, not proved from fmt's source: count such statements apart). THE CARD IS WHAT COUNTS. Prove the row's statement (the work); the ties are given (YtghcbkkabhlchaaDoorTie.lean); close each card by the builder's one call (the guide's Derived/Test/ToyasCard.lean, 'card_holds'). Laid BY PROGRAM, IN A SANDBOX (cutbox-door.mjs). By AI agents, Wed Nov 11 2026. No macro, syntax, notation, axiom, sorry.
-/
import Derived.Test.YtghcbkkabhlchaaDoorRows
import GoSem.ClaimSeven
namespace Go.Proofs.YtghcbkkabhlchaaDoor
namespace Rows

/-- THE TIED CARD OF 'bulwarklaw09.RefWorths'. -/
def refWorthsCard : Claim7 := { stood := { row := refWorthsRow, standIns := [], harness := (true, "80b49908e217e696757decf4da08d49ff09d54bb6ab5691c854445a1d184af5f"), looks := false }, kinds := [], alts := [], laidByText := true, laidKinds := [.data, .pinned], laidTests := true, laidLooks := .later }
def RefWorthsCardSaid : Prop := Claim7.holds Tryd.pinned (.plain (OpenSpec.ofChange refWorthsSpec)) refWorthsCard

/-- THE TIED CARD OF 'bulwarklaw09.RefRises'. -/
def refRisesCard : Claim7 := { stood := { row := refRisesRow, standIns := [], harness := (true, "80b49908e217e696757decf4da08d49ff09d54bb6ab5691c854445a1d184af5f"), looks := false }, kinds := [], alts := [], laidByText := true, laidKinds := [.data, .pinned], laidTests := true, laidLooks := .later }
def RefRisesCardSaid : Prop := Claim7.holds Tryd.pinned (.plain (OpenSpec.ofChange refRisesSpec)) refRisesCard

/-- THE TIED CARD OF 'bulwarklaw09.RefShifts'. -/
def refShiftsCard : Claim7 := { stood := { row := refShiftsRow, standIns := [], harness := (true, "80b49908e217e696757decf4da08d49ff09d54bb6ab5691c854445a1d184af5f"), looks := false }, kinds := [], alts := [], laidByText := true, laidKinds := [.data, .pinned], laidTests := true, laidLooks := .later }
def RefShiftsCardSaid : Prop := Claim7.holds Tryd.pinned (.plain (OpenSpec.ofChange refShiftsSpec)) refShiftsCard

/-- THE TIED CARD OF 'bulwarklaw09.RefThings'. -/
def refThingsCard : Claim7 := { stood := { row := refThingsRow, standIns := [], harness := (true, "80b49908e217e696757decf4da08d49ff09d54bb6ab5691c854445a1d184af5f"), looks := false }, kinds := [], alts := [], laidByText := true, laidKinds := [.data, .pinned], laidTests := true, laidLooks := .later }
def RefThingsCardSaid : Prop := Claim7.holds Tryd.pinned (.plain (OpenSpec.ofChange refThingsSpec)) refThingsCard

/-- THE SECOND FORM's CARD OF 'bulwarklaw09.RefWorths'. -/
def refWorthsUptoCard : Claim7 := { stood := { row := refWorthsUptoRow, standIns := [], harness := (true, "80b49908e217e696757decf4da08d49ff09d54bb6ab5691c854445a1d184af5f"), looks := false }, kinds := [], alts := [], laidByText := true, laidKinds := [.data, .pinned], laidTests := true, laidLooks := .later }
def RefWorthsUptoCardSaid : Prop := Claim7.holds Tryd.pinned (.plain (OpenSpec.upto refWorthsSpec)) refWorthsUptoCard

/-- THE SECOND FORM's CARD OF 'bulwarklaw09.RefRises'. -/
def refRisesUptoCard : Claim7 := { stood := { row := refRisesUptoRow, standIns := [], harness := (true, "80b49908e217e696757decf4da08d49ff09d54bb6ab5691c854445a1d184af5f"), looks := false }, kinds := [], alts := [], laidByText := true, laidKinds := [.data, .pinned], laidTests := true, laidLooks := .later }
def RefRisesUptoCardSaid : Prop := Claim7.holds Tryd.pinned (.plain (OpenSpec.upto refRisesSpec)) refRisesUptoCard

/-- THE SECOND FORM's CARD OF 'bulwarklaw09.RefShifts'. -/
def refShiftsUptoCard : Claim7 := { stood := { row := refShiftsUptoRow, standIns := [], harness := (true, "80b49908e217e696757decf4da08d49ff09d54bb6ab5691c854445a1d184af5f"), looks := false }, kinds := [], alts := [], laidByText := true, laidKinds := [.data, .pinned], laidTests := true, laidLooks := .later }
def RefShiftsUptoCardSaid : Prop := Claim7.holds Tryd.pinned (.plain (OpenSpec.upto refShiftsSpec)) refShiftsUptoCard

/-- THE SECOND FORM's CARD OF 'bulwarklaw09.RefThings'. -/
def refThingsUptoCard : Claim7 := { stood := { row := refThingsUptoRow, standIns := [], harness := (true, "80b49908e217e696757decf4da08d49ff09d54bb6ab5691c854445a1d184af5f"), looks := false }, kinds := [], alts := [], laidByText := true, laidKinds := [.data, .pinned], laidTests := true, laidLooks := .later }
def RefThingsUptoCardSaid : Prop := Claim7.holds Tryd.pinned (.plain (OpenSpec.upto refThingsSpec)) refThingsUptoCard
end Rows
end Go.Proofs.YtghcbkkabhlchaaDoor
