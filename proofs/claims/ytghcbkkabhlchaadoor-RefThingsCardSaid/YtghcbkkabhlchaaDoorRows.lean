/-
  NARROWER THAN 'FOR EVERY INPUT', by the rows' own cells (each row's printed sentence says how): RefWorths: laid · RefRises: laid · RefShifts: laid · RefThings: laid.
  DERIVED. THE GIVEN ROWS OF THIS SEAT. 4 by the template 'for every input the law returns true; each argument reads behind the call as it read before'; 0 by the template 'total and deterministic' (their statements: YtghcbkkabhlchaaDoorTotals.lean).
  GIVEN WITH THE SEED: the statements are not yours to turn. If you find one false, say at which input.
  Laid BY PROGRAM, IN A SANDBOX (cutbox-rows.mjs): the forced cells as the released guide's own fill.sh prints them over the translation b43c80610208da52… (all of the seat's roots in one cut). By AI agents, Wed Nov 11 2026. No macro, syntax, notation, axiom, sorry.
-/
import Derived.Test.YtghcbkkabhlchaaDoorChecked
import GoSem.PinnedTables
import GoSem.Claim
import GoSem.ClaimJoined
import GoSem.ClaimMapViews
import Derived.JoinedTies
import Derived.KernelRfl
namespace Go.Proofs.YtghcbkkabhlchaaDoor
/- THE CELL 'sum', in the pinned program and in every row, IS THE sha256 OF THE DUMP (.gsa) THAT YtghcbkkabhlchaaDoorProg.lean LOADS. Nothing in Lean hashes anything: it is a label: what it is worth is what the hold of that sum in a sandbox is worth. -/
noncomputable def Tryd.pinned : Pinned := { name := "ytghcbkkabhlchaadoor", sum := "b43c80610208da52ce2a144f780c7808b6103a130e9d57ca4b38c0d49948d3bf", checked := Tryd.checked }
namespace Rows
def none {H : Type} : Left H := { results := [], args := [] }

/- WHAT THE LISTED PACKAGE-LEVEL VARIABLES READ AS WHEN THE CALL BEGINS. Each datum BY PROGRAM (the guide's laid-datum.mjs) off the statement by which the dump's own 'gosem.cut.vars' lays the variable. In a bare row this is a premise. The card (YtghcbkkabhlchaaDoorCards.lean) ties it to the program's text. -/
def laid_unicode_utf8_acceptRanges {H : Type} : DataW H := .agg [.agg [.lit (.int .u8 128), .lit (.int .u8 191)], .agg [.lit (.int .u8 160), .lit (.int .u8 191)], .agg [.lit (.int .u8 128), .lit (.int .u8 159)], .agg [.lit (.int .u8 144), .lit (.int .u8 191)], .agg [.lit (.int .u8 128), .lit (.int .u8 143)], .agg [.lit (.int .u8 0), .lit (.int .u8 0)], .agg [.lit (.int .u8 0), .lit (.int .u8 0)], .agg [.lit (.int .u8 0), .lit (.int .u8 0)], .agg [.lit (.int .u8 0), .lit (.int .u8 0)], .agg [.lit (.int .u8 0), .lit (.int .u8 0)], .agg [.lit (.int .u8 0), .lit (.int .u8 0)], .agg [.lit (.int .u8 0), .lit (.int .u8 0)], .agg [.lit (.int .u8 0), .lit (.int .u8 0)], .agg [.lit (.int .u8 0), .lit (.int .u8 0)], .agg [.lit (.int .u8 0), .lit (.int .u8 0)], .agg [.lit (.int .u8 0), .lit (.int .u8 0)]]
/-- One of Go's own tables, pinned by name: the form's constant. -/
def laid_unicode_utf8_first : DataW Unit := Go.Pinned.utf8First

/-- 'bulwarklaw09.RefWorths': WHATEVER THE INPUT: true; the input reads as it did. -/
def refWorthsSpec : ChangeSpec := { name := "refWorths", fn := fun _ => fun
  | [d1, d2, d3] => { results := [.lit (.bool true)], args := [d1, d2, d3] }
  | _ => none }
def refWorthsRow : OpenClaim := { program := "ytghcbkkabhlchaadoor", sum := "b43c80610208da52ce2a144f780c7808b6103a130e9d57ca4b38c0d49948d3bf", func := "bulwark/bulwarklaw09.RefWorths", spec := "refWorths", inPlace := ["math/bits.Add64", "internal/bytealg.IndexByteString", "internal/bytealg.IndexString"], named := ["math/bits.divideError", "math/bits.overflowError", "unicode/utf8.first", "unicode/utf8.acceptRanges", "internal/bytealg.MaxLen"], apart := false, laid := [("unicode/utf8.acceptRanges", laid_unicode_utf8_acceptRanges), ("unicode/utf8.first", laid_unicode_utf8_first)] }
def RefWorthsSaid : Prop := refWorthsRow.holds Tryd.pinned (OpenSpec.ofChange refWorthsSpec)

/-- ITS FALSE NEIGHBOUR: 'it returns false'. Refute it at one input. -/
def refWorthsWrong : ChangeSpec := { name := "refWorths", fn := fun _ => fun
  | [d1, d2, d3] => { results := [.lit (.bool false)], args := [d1, d2, d3] }
  | _ => none }
def RefWorthsWrongFalsely : Prop := refWorthsRow.holds Tryd.pinned (OpenSpec.ofChange refWorthsWrong)

/-- 'bulwarklaw09.RefRises': WHATEVER THE INPUT: true; the input reads as it did. -/
def refRisesSpec : ChangeSpec := { name := "refRises", fn := fun _ => fun
  | [d1, d2, d3] => { results := [.lit (.bool true)], args := [d1, d2, d3] }
  | _ => none }
def refRisesRow : OpenClaim := { program := "ytghcbkkabhlchaadoor", sum := "b43c80610208da52ce2a144f780c7808b6103a130e9d57ca4b38c0d49948d3bf", func := "bulwark/bulwarklaw09.RefRises", spec := "refRises", inPlace := ["math/bits.Add64", "internal/bytealg.IndexByteString", "internal/bytealg.IndexString"], named := ["math/bits.divideError", "math/bits.overflowError", "unicode/utf8.first", "unicode/utf8.acceptRanges", "internal/bytealg.MaxLen"], apart := false, laid := [("unicode/utf8.acceptRanges", laid_unicode_utf8_acceptRanges), ("unicode/utf8.first", laid_unicode_utf8_first)] }
def RefRisesSaid : Prop := refRisesRow.holds Tryd.pinned (OpenSpec.ofChange refRisesSpec)

/-- ITS FALSE NEIGHBOUR: 'it returns false'. Refute it at one input. -/
def refRisesWrong : ChangeSpec := { name := "refRises", fn := fun _ => fun
  | [d1, d2, d3] => { results := [.lit (.bool false)], args := [d1, d2, d3] }
  | _ => none }
def RefRisesWrongFalsely : Prop := refRisesRow.holds Tryd.pinned (OpenSpec.ofChange refRisesWrong)

/-- 'bulwarklaw09.RefShifts': WHATEVER THE INPUT: true; the input reads as it did. -/
def refShiftsSpec : ChangeSpec := { name := "refShifts", fn := fun _ => fun
  | [d1, d2, d3] => { results := [.lit (.bool true)], args := [d1, d2, d3] }
  | _ => none }
def refShiftsRow : OpenClaim := { program := "ytghcbkkabhlchaadoor", sum := "b43c80610208da52ce2a144f780c7808b6103a130e9d57ca4b38c0d49948d3bf", func := "bulwark/bulwarklaw09.RefShifts", spec := "refShifts", inPlace := ["math/bits.Add64", "internal/bytealg.IndexByteString", "internal/bytealg.IndexString"], named := ["math/bits.divideError", "math/bits.overflowError", "unicode/utf8.first", "unicode/utf8.acceptRanges", "internal/bytealg.MaxLen"], apart := false, laid := [("unicode/utf8.acceptRanges", laid_unicode_utf8_acceptRanges), ("unicode/utf8.first", laid_unicode_utf8_first)] }
def RefShiftsSaid : Prop := refShiftsRow.holds Tryd.pinned (OpenSpec.ofChange refShiftsSpec)

/-- ITS FALSE NEIGHBOUR: 'it returns false'. Refute it at one input. -/
def refShiftsWrong : ChangeSpec := { name := "refShifts", fn := fun _ => fun
  | [d1, d2, d3] => { results := [.lit (.bool false)], args := [d1, d2, d3] }
  | _ => none }
def RefShiftsWrongFalsely : Prop := refShiftsRow.holds Tryd.pinned (OpenSpec.ofChange refShiftsWrong)

/-- 'bulwarklaw09.RefThings': WHATEVER THE INPUT: true; the input reads as it did. -/
def refThingsSpec : ChangeSpec := { name := "refThings", fn := fun _ => fun
  | [d1, d2, d3] => { results := [.lit (.bool true)], args := [d1, d2, d3] }
  | _ => none }
def refThingsRow : OpenClaim := { program := "ytghcbkkabhlchaadoor", sum := "b43c80610208da52ce2a144f780c7808b6103a130e9d57ca4b38c0d49948d3bf", func := "bulwark/bulwarklaw09.RefThings", spec := "refThings", inPlace := ["math/bits.Add64", "internal/bytealg.IndexByteString", "internal/bytealg.IndexString"], named := ["math/bits.divideError", "math/bits.overflowError", "unicode/utf8.first", "unicode/utf8.acceptRanges", "internal/bytealg.MaxLen"], apart := false, laid := [("unicode/utf8.acceptRanges", laid_unicode_utf8_acceptRanges), ("unicode/utf8.first", laid_unicode_utf8_first)] }
def RefThingsSaid : Prop := refThingsRow.holds Tryd.pinned (OpenSpec.ofChange refThingsSpec)

/-- ITS FALSE NEIGHBOUR: 'it returns false'. Refute it at one input. -/
def refThingsWrong : ChangeSpec := { name := "refThings", fn := fun _ => fun
  | [d1, d2, d3] => { results := [.lit (.bool false)], args := [d1, d2, d3] }
  | _ => none }
def RefThingsWrongFalsely : Prop := refThingsRow.holds Tryd.pinned (OpenSpec.ofChange refThingsWrong)

/- THE SECOND FORM. 'bulk': how many values and letters a reading holds, each counted each time it is reached (what is shared counts as often as it is met; a slice's spare places count too). A statement '..UptoSaid' is the law's where the arguments, and the package variables that the reading takes, are together of bulk at most 1048576: NARROWER than '..Said'. Prove '..Said' where nothing that the law and all that it calls make is longer than what came in: it says more and counts as full. Else prove '..UptoSaid'. A law counts once. -/
mutual
def uptoBulk {H : Type} : DataW H → Nat
  | .lit (.string bytes) => bytes.length + 1
  | .lit _ => 1
  | .nil => 1
  | .ptr d => uptoBulk d + 1
  | .slice elems spare => uptoBulkAll elems + uptoBulkAll spare + 1
  | .agg parts => uptoBulkAll parts + 1
  | .iface _ d => uptoBulk d + 1
  | .map entries => uptoBulkEntries entries + 1
  | .held _ => 1
def uptoBulkAll {H : Type} : List (DataW H) → Nat
  | [] => 0
  | d :: r => uptoBulk d + uptoBulkAll r
def uptoBulkEntries {H : Type} : List (Lit × DataW H) → Nat
  | [] => 0
  | x :: r => uptoBulkEntry x + uptoBulkEntries r
def uptoBulkEntry {H : Type} : Lit × DataW H → Nat
  | (.string bytes, d) => bytes.length + uptoBulk d + 1
  | (_, d) => uptoBulk d + 1
 end
def uptoSmall : (H : Type) → List (DataW H) → Bool := fun _ ds => decide (uptoBulkAll ds ≤ 1048576)
def OpenSpec.upto (s : _root_.Go.ChangeSpec) : _root_.Go.OpenSpec := { _root_.Go.OpenSpec.ofChange s with cond := some uptoSmall }

/-- 'bulwarklaw09.RefWorths', WHERE WHAT IT READS IS OF BULK AT MOST 1048576: true; the input reads as it did. -/
def refWorthsUptoRow : OpenClaim := { program := "ytghcbkkabhlchaadoor", sum := "b43c80610208da52ce2a144f780c7808b6103a130e9d57ca4b38c0d49948d3bf", func := "bulwark/bulwarklaw09.RefWorths", spec := "refWorths", inPlace := ["math/bits.Add64", "internal/bytealg.IndexByteString", "internal/bytealg.IndexString"], named := ["math/bits.divideError", "math/bits.overflowError", "unicode/utf8.first", "unicode/utf8.acceptRanges", "internal/bytealg.MaxLen"], apart := false, laid := [("unicode/utf8.acceptRanges", laid_unicode_utf8_acceptRanges), ("unicode/utf8.first", laid_unicode_utf8_first)], narrowed := true }
def RefWorthsUptoSaid : Prop := refWorthsUptoRow.holds Tryd.pinned (OpenSpec.upto refWorthsSpec)

/-- 'bulwarklaw09.RefRises', WHERE WHAT IT READS IS OF BULK AT MOST 1048576: true; the input reads as it did. -/
def refRisesUptoRow : OpenClaim := { program := "ytghcbkkabhlchaadoor", sum := "b43c80610208da52ce2a144f780c7808b6103a130e9d57ca4b38c0d49948d3bf", func := "bulwark/bulwarklaw09.RefRises", spec := "refRises", inPlace := ["math/bits.Add64", "internal/bytealg.IndexByteString", "internal/bytealg.IndexString"], named := ["math/bits.divideError", "math/bits.overflowError", "unicode/utf8.first", "unicode/utf8.acceptRanges", "internal/bytealg.MaxLen"], apart := false, laid := [("unicode/utf8.acceptRanges", laid_unicode_utf8_acceptRanges), ("unicode/utf8.first", laid_unicode_utf8_first)], narrowed := true }
def RefRisesUptoSaid : Prop := refRisesUptoRow.holds Tryd.pinned (OpenSpec.upto refRisesSpec)

/-- 'bulwarklaw09.RefShifts', WHERE WHAT IT READS IS OF BULK AT MOST 1048576: true; the input reads as it did. -/
def refShiftsUptoRow : OpenClaim := { program := "ytghcbkkabhlchaadoor", sum := "b43c80610208da52ce2a144f780c7808b6103a130e9d57ca4b38c0d49948d3bf", func := "bulwark/bulwarklaw09.RefShifts", spec := "refShifts", inPlace := ["math/bits.Add64", "internal/bytealg.IndexByteString", "internal/bytealg.IndexString"], named := ["math/bits.divideError", "math/bits.overflowError", "unicode/utf8.first", "unicode/utf8.acceptRanges", "internal/bytealg.MaxLen"], apart := false, laid := [("unicode/utf8.acceptRanges", laid_unicode_utf8_acceptRanges), ("unicode/utf8.first", laid_unicode_utf8_first)], narrowed := true }
def RefShiftsUptoSaid : Prop := refShiftsUptoRow.holds Tryd.pinned (OpenSpec.upto refShiftsSpec)

/-- 'bulwarklaw09.RefThings', WHERE WHAT IT READS IS OF BULK AT MOST 1048576: true; the input reads as it did. -/
def refThingsUptoRow : OpenClaim := { program := "ytghcbkkabhlchaadoor", sum := "b43c80610208da52ce2a144f780c7808b6103a130e9d57ca4b38c0d49948d3bf", func := "bulwark/bulwarklaw09.RefThings", spec := "refThings", inPlace := ["math/bits.Add64", "internal/bytealg.IndexByteString", "internal/bytealg.IndexString"], named := ["math/bits.divideError", "math/bits.overflowError", "unicode/utf8.first", "unicode/utf8.acceptRanges", "internal/bytealg.MaxLen"], apart := false, laid := [("unicode/utf8.acceptRanges", laid_unicode_utf8_acceptRanges), ("unicode/utf8.first", laid_unicode_utf8_first)], narrowed := true }
def RefThingsUptoSaid : Prop := refThingsUptoRow.holds Tryd.pinned (OpenSpec.upto refThingsSpec)

end Rows
end Go.Proofs.YtghcbkkabhlchaaDoor
