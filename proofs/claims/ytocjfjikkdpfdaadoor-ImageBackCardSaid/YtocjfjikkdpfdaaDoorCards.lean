/-
  DERIVED. GIVEN WITH THE SEED: THE CARDS: each row of YtocjfjikkdpfdaaDoorRows.lean that lists a variable, with what it lists TIED to the program's text (the seventh form; the later family's looks); each row that meets fmt, with fmt's text TOLD by the authors' own Lean function (tested against real Go, not proved from fmt's source: count such statements apart). THE CARD IS WHAT COUNTS. Prove the row's statement (the work); the ties are given (YtocjfjikkdpfdaaDoorTie.lean); close each card by the builder's one call (the guide's Derived/Test/ToyasCard.lean, 'card_holds'). Laid BY PROGRAM, IN A SANDBOX (cutbox-door.mjs). By AI agents, Wed Nov 11 2026. No macro, syntax, notation, axiom, sorry.
-/
import Derived.Test.YtocjfjikkdpfdaaDoorRows
import GoSem.ClaimSeven
namespace Go.Proofs.YtocjfjikkdpfdaaDoor
namespace Rows

/-- THE TIED CARD OF 'bulwarklaw21.ImageMakes'. -/
def imageMakesCard : Claim7 := { stood := { row := imageMakesRow, standIns := [], harness := (true, "dc5354566cacd574aa780d9be501686a6840f2e59893677be3225cf05da0856c"), looks := true }, kinds := [], alts := [], laidByText := true, laidKinds := [.data, .pinned], laidTests := true, laidLooks := .later }
def ImageMakesCardSaid : Prop := Claim7.holds Tryd.pinned (.plain (OpenSpec.ofChange imageMakesSpec)) imageMakesCard

/-- THE TIED CARD OF 'bulwarklaw21.ImageUnlike'. -/
def imageUnlikeCard : Claim7 := { stood := { row := imageUnlikeRow, standIns := [], harness := (true, "dc5354566cacd574aa780d9be501686a6840f2e59893677be3225cf05da0856c"), looks := true }, kinds := [], alts := [], laidByText := true, laidKinds := [.data, .pinned], laidTests := true, laidLooks := .later }
def ImageUnlikeCardSaid : Prop := Claim7.holds Tryd.pinned (.plain (OpenSpec.ofChange imageUnlikeSpec)) imageUnlikeCard

/-- THE TIED CARD OF 'bulwarklaw21.ImageEvents'. -/
def imageEventsCard : Claim7 := { stood := { row := imageEventsRow, standIns := [], harness := (true, "dc5354566cacd574aa780d9be501686a6840f2e59893677be3225cf05da0856c"), looks := true }, kinds := [], alts := [], laidByText := true, laidKinds := [.data, .pinned], laidTests := true, laidLooks := .later }
def ImageEventsCardSaid : Prop := Claim7.holds Tryd.pinned (.plain (OpenSpec.ofChange imageEventsSpec)) imageEventsCard

/-- THE TIED CARD OF 'bulwarklaw21.ImageBack'. -/
def imageBackCard : Claim7 := { stood := { row := imageBackRow, standIns := [], harness := (true, "dc5354566cacd574aa780d9be501686a6840f2e59893677be3225cf05da0856c"), looks := true }, kinds := [], alts := [], laidByText := true, laidKinds := [.data, .pinned], laidTests := true, laidLooks := .later }
def ImageBackCardSaid : Prop := Claim7.holds Tryd.pinned (.plain (OpenSpec.ofChange imageBackSpec)) imageBackCard

/-- THE SECOND FORM's CARD OF 'bulwarklaw21.ImageMakes'. -/
def imageMakesUptoCard : Claim7 := { stood := { row := imageMakesUptoRow, standIns := [], harness := (true, "dc5354566cacd574aa780d9be501686a6840f2e59893677be3225cf05da0856c"), looks := true }, kinds := [], alts := [], laidByText := true, laidKinds := [.data, .pinned], laidTests := true, laidLooks := .later }
def ImageMakesUptoCardSaid : Prop := Claim7.holds Tryd.pinned (.plain (OpenSpec.upto imageMakesSpec)) imageMakesUptoCard

/-- THE SECOND FORM's CARD OF 'bulwarklaw21.ImageUnlike'. -/
def imageUnlikeUptoCard : Claim7 := { stood := { row := imageUnlikeUptoRow, standIns := [], harness := (true, "dc5354566cacd574aa780d9be501686a6840f2e59893677be3225cf05da0856c"), looks := true }, kinds := [], alts := [], laidByText := true, laidKinds := [.data, .pinned], laidTests := true, laidLooks := .later }
def ImageUnlikeUptoCardSaid : Prop := Claim7.holds Tryd.pinned (.plain (OpenSpec.upto imageUnlikeSpec)) imageUnlikeUptoCard

/-- THE SECOND FORM's CARD OF 'bulwarklaw21.ImageEvents'. -/
def imageEventsUptoCard : Claim7 := { stood := { row := imageEventsUptoRow, standIns := [], harness := (true, "dc5354566cacd574aa780d9be501686a6840f2e59893677be3225cf05da0856c"), looks := true }, kinds := [], alts := [], laidByText := true, laidKinds := [.data, .pinned], laidTests := true, laidLooks := .later }
def ImageEventsUptoCardSaid : Prop := Claim7.holds Tryd.pinned (.plain (OpenSpec.upto imageEventsSpec)) imageEventsUptoCard

/-- THE SECOND FORM's CARD OF 'bulwarklaw21.ImageBack'. -/
def imageBackUptoCard : Claim7 := { stood := { row := imageBackUptoRow, standIns := [], harness := (true, "dc5354566cacd574aa780d9be501686a6840f2e59893677be3225cf05da0856c"), looks := true }, kinds := [], alts := [], laidByText := true, laidKinds := [.data, .pinned], laidTests := true, laidLooks := .later }
def ImageBackUptoCardSaid : Prop := Claim7.holds Tryd.pinned (.plain (OpenSpec.upto imageBackSpec)) imageBackUptoCard
end Rows
end Go.Proofs.YtocjfjikkdpfdaaDoor
