/-
  NARROWER THAN 'FOR EVERY INPUT', by the rows' own cells (each row's printed sentence says how): GridUnits: laid · GridRises: laid · GridPoints: laid · GridWorst: laid · GridBounds: laid.
  DERIVED. THE GIVEN ROWS OF THIS SEAT. 5 by the template 'for every input the law returns true; each argument reads behind the call as it read before'; 0 by the template 'total and deterministic' (their statements: YtjfcghbifhmacaaDoorTotals.lean).
  GIVEN WITH THE SEED: the statements are not yours to turn. If you find one false, say at which input.
  Laid BY PROGRAM, IN A SANDBOX (cutbox-rows.mjs): the forced cells as the released guide's own fill.sh prints them over the translation 09f68a81322793ab… (all of the seat's roots in one cut). By AI agents, Wed Nov 11 2026. No macro, syntax, notation, axiom, sorry.
-/
import Derived.Test.YtjfcghbifhmacaaDoorChecked
import GoSem.Claim
import GoSem.ClaimJoined
import GoSem.ClaimMapViews
import Derived.JoinedTies
import Derived.KernelRfl
namespace Go.Proofs.YtjfcghbifhmacaaDoor
/- THE CELL 'sum', in the pinned program and in every row, IS THE sha256 OF THE DUMP (.gsa) THAT YtjfcghbifhmacaaDoorProg.lean LOADS. Nothing in Lean hashes anything: it is a label: what it is worth is what the hold of that sum in a sandbox is worth. -/
noncomputable def Tryd.pinned : Pinned := { name := "ytjfcghbifhmacaadoor", sum := "09f68a81322793ab1c417e31e4ec35bca77b32c49a876aab6fe02d79928062c0", checked := Tryd.checked }
namespace Rows
def none {H : Type} : Left H := { results := [], args := [] }

/- WHAT THE LISTED PACKAGE-LEVEL VARIABLES READ AS WHEN THE CALL BEGINS. Each datum BY PROGRAM (the guide's laid-datum.mjs) off the statement by which the dump's own 'gosem.cut.vars' lays the variable. In a bare row this is a premise. The card (YtjfcghbifhmacaaDoorCards.lean) ties it to the program's text. -/
def laid_bulwark_grid_shifts {H : Type} : DataW H := .agg [.lit (.int .i64 (-2000)), .lit (.int .i64 (-1000)), .lit (.int .i64 (-500)), .lit (.int .i64 0), .lit (.int .i64 500), .lit (.int .i64 1000), .lit (.int .i64 2000)]
def laid_bulwark_grid_vols {H : Type} : DataW H := .agg [.lit (.int .i64 (-2500)), .lit (.int .i64 0), .lit (.int .i64 2500)]

/-- 'bulwarklaw12.GridUnits': WHATEVER THE INPUT: true; the input reads as it did. -/
def gridUnitsSpec : ChangeSpec := { name := "gridUnits", fn := fun _ => fun
  | [d1, d2, d3] => { results := [.lit (.bool true)], args := [d1, d2, d3] }
  | _ => none }
def gridUnitsRow : OpenClaim := { program := "ytjfcghbifhmacaadoor", sum := "09f68a81322793ab1c417e31e4ec35bca77b32c49a876aab6fe02d79928062c0", func := "bulwark/bulwarklaw12.GridUnits", spec := "gridUnits", inPlace := ["math/bits.Add64"], unfollowed := true, recurses := true, named := ["bulwark/grid.shifts", "bulwark/grid.vols", "math/bits.divideError", "math/bits.overflowError"], apart := false, laid := [("bulwark/grid.shifts", laid_bulwark_grid_shifts), ("bulwark/grid.vols", laid_bulwark_grid_vols)] }
def GridUnitsSaid : Prop := gridUnitsRow.holds Tryd.pinned (OpenSpec.ofChange gridUnitsSpec)

/-- ITS FALSE NEIGHBOUR: 'it returns false'. Refute it at one input. -/
def gridUnitsWrong : ChangeSpec := { name := "gridUnits", fn := fun _ => fun
  | [d1, d2, d3] => { results := [.lit (.bool false)], args := [d1, d2, d3] }
  | _ => none }
def GridUnitsWrongFalsely : Prop := gridUnitsRow.holds Tryd.pinned (OpenSpec.ofChange gridUnitsWrong)

/-- 'bulwarklaw12.GridRises': WHATEVER THE INPUT: true; the input reads as it did. -/
def gridRisesSpec : ChangeSpec := { name := "gridRises", fn := fun _ => fun
  | [d1, d2, d3] => { results := [.lit (.bool true)], args := [d1, d2, d3] }
  | _ => none }
def gridRisesRow : OpenClaim := { program := "ytjfcghbifhmacaadoor", sum := "09f68a81322793ab1c417e31e4ec35bca77b32c49a876aab6fe02d79928062c0", func := "bulwark/bulwarklaw12.GridRises", spec := "gridRises", inPlace := ["math/bits.Add64"], unfollowed := true, recurses := true, named := ["bulwark/grid.shifts", "bulwark/grid.vols", "math/bits.divideError", "math/bits.overflowError"], apart := false, laid := [("bulwark/grid.shifts", laid_bulwark_grid_shifts), ("bulwark/grid.vols", laid_bulwark_grid_vols)] }
def GridRisesSaid : Prop := gridRisesRow.holds Tryd.pinned (OpenSpec.ofChange gridRisesSpec)

/-- ITS FALSE NEIGHBOUR: 'it returns false'. Refute it at one input. -/
def gridRisesWrong : ChangeSpec := { name := "gridRises", fn := fun _ => fun
  | [d1, d2, d3] => { results := [.lit (.bool false)], args := [d1, d2, d3] }
  | _ => none }
def GridRisesWrongFalsely : Prop := gridRisesRow.holds Tryd.pinned (OpenSpec.ofChange gridRisesWrong)

/-- 'bulwarklaw12.GridPoints': WHATEVER THE INPUT: true; the input reads as it did. -/
def gridPointsSpec : ChangeSpec := { name := "gridPoints", fn := fun _ => fun
  | [d1, d2, d3] => { results := [.lit (.bool true)], args := [d1, d2, d3] }
  | _ => none }
def gridPointsRow : OpenClaim := { program := "ytjfcghbifhmacaadoor", sum := "09f68a81322793ab1c417e31e4ec35bca77b32c49a876aab6fe02d79928062c0", func := "bulwark/bulwarklaw12.GridPoints", spec := "gridPoints", inPlace := ["math/bits.Add64"], unfollowed := true, recurses := true, named := ["bulwark/grid.shifts", "bulwark/grid.vols", "math/bits.divideError", "math/bits.overflowError"], apart := false, laid := [("bulwark/grid.shifts", laid_bulwark_grid_shifts), ("bulwark/grid.vols", laid_bulwark_grid_vols)] }
def GridPointsSaid : Prop := gridPointsRow.holds Tryd.pinned (OpenSpec.ofChange gridPointsSpec)

/-- ITS FALSE NEIGHBOUR: 'it returns false'. Refute it at one input. -/
def gridPointsWrong : ChangeSpec := { name := "gridPoints", fn := fun _ => fun
  | [d1, d2, d3] => { results := [.lit (.bool false)], args := [d1, d2, d3] }
  | _ => none }
def GridPointsWrongFalsely : Prop := gridPointsRow.holds Tryd.pinned (OpenSpec.ofChange gridPointsWrong)

/-- 'bulwarklaw12.GridWorst': WHATEVER THE INPUT: true; the input reads as it did. -/
def gridWorstSpec : ChangeSpec := { name := "gridWorst", fn := fun _ => fun
  | [d] => { results := [.lit (.bool true)], args := [d] }
  | _ => none }
def gridWorstRow : OpenClaim := { program := "ytjfcghbifhmacaadoor", sum := "09f68a81322793ab1c417e31e4ec35bca77b32c49a876aab6fe02d79928062c0", func := "bulwark/bulwarklaw12.GridWorst", spec := "gridWorst", inPlace := ["math/bits.Add64"], unfollowed := true, recurses := true, named := ["bulwark/grid.shifts", "bulwark/grid.vols", "math/bits.divideError", "math/bits.overflowError"], apart := false, laid := [("bulwark/grid.shifts", laid_bulwark_grid_shifts), ("bulwark/grid.vols", laid_bulwark_grid_vols)] }
def GridWorstSaid : Prop := gridWorstRow.holds Tryd.pinned (OpenSpec.ofChange gridWorstSpec)

/-- ITS FALSE NEIGHBOUR: 'it returns false'. Refute it at one input. -/
def gridWorstWrong : ChangeSpec := { name := "gridWorst", fn := fun _ => fun
  | [d] => { results := [.lit (.bool false)], args := [d] }
  | _ => none }
def GridWorstWrongFalsely : Prop := gridWorstRow.holds Tryd.pinned (OpenSpec.ofChange gridWorstWrong)

/-- 'bulwarklaw12.GridBounds': WHATEVER THE INPUT: true; the input reads as it did. -/
def gridBoundsSpec : ChangeSpec := { name := "gridBounds", fn := fun _ => fun
  | [d1, d2, d3] => { results := [.lit (.bool true)], args := [d1, d2, d3] }
  | _ => none }
def gridBoundsRow : OpenClaim := { program := "ytjfcghbifhmacaadoor", sum := "09f68a81322793ab1c417e31e4ec35bca77b32c49a876aab6fe02d79928062c0", func := "bulwark/bulwarklaw12.GridBounds", spec := "gridBounds", inPlace := ["math/bits.Add64"], unfollowed := true, recurses := true, named := ["bulwark/grid.shifts", "bulwark/grid.vols", "math/bits.divideError", "math/bits.overflowError"], apart := false, laid := [("bulwark/grid.shifts", laid_bulwark_grid_shifts), ("bulwark/grid.vols", laid_bulwark_grid_vols)] }
def GridBoundsSaid : Prop := gridBoundsRow.holds Tryd.pinned (OpenSpec.ofChange gridBoundsSpec)

/-- ITS FALSE NEIGHBOUR: 'it returns false'. Refute it at one input. -/
def gridBoundsWrong : ChangeSpec := { name := "gridBounds", fn := fun _ => fun
  | [d1, d2, d3] => { results := [.lit (.bool false)], args := [d1, d2, d3] }
  | _ => none }
def GridBoundsWrongFalsely : Prop := gridBoundsRow.holds Tryd.pinned (OpenSpec.ofChange gridBoundsWrong)

/- THE SECOND FORM. 'bulk': how many values and letters a reading holds, each counted each time it is reached (what is shared counts as often as it is met; a slice's spare places count too). A statement '..UptoSaid' is the law's where the arguments, and the package variables that the reading takes, are together of bulk at most 1048576: NARROWER than '..Said'. Prove '..Said' where nothing that the law and all that it calls make is longer than what came in: it says more and counts as full. Else prove '..UptoSaid'. A law counts once. -/
mutual
def uptoBulk {H : Type} : DataW H → Nat
  | .lit (.string bytes) => bytes.length + 1
  | .lit _ => 1
  | .nil => 1
  | .ptr d => uptoBulk d + 1
  | .slice elems spare => uptoBulkAll elems + uptoBulkAll spare + 1
  | .agg parts => uptoBulkAll parts + 1
  | .iface _ d => uptoBulk d + 1
  | .map entries => uptoBulkEntries entries + 1
  | .held _ => 1
def uptoBulkAll {H : Type} : List (DataW H) → Nat
  | [] => 0
  | d :: r => uptoBulk d + uptoBulkAll r
def uptoBulkEntries {H : Type} : List (Lit × DataW H) → Nat
  | [] => 0
  | x :: r => uptoBulkEntry x + uptoBulkEntries r
def uptoBulkEntry {H : Type} : Lit × DataW H → Nat
  | (.string bytes, d) => bytes.length + uptoBulk d + 1
  | (_, d) => uptoBulk d + 1
 end
def uptoSmall : (H : Type) → List (DataW H) → Bool := fun _ ds => decide (uptoBulkAll ds ≤ 1048576)
def OpenSpec.upto (s : _root_.Go.ChangeSpec) : _root_.Go.OpenSpec := { _root_.Go.OpenSpec.ofChange s with cond := some uptoSmall }

/-- 'bulwarklaw12.GridUnits', WHERE WHAT IT READS IS OF BULK AT MOST 1048576: true; the input reads as it did. -/
def gridUnitsUptoRow : OpenClaim := { program := "ytjfcghbifhmacaadoor", sum := "09f68a81322793ab1c417e31e4ec35bca77b32c49a876aab6fe02d79928062c0", func := "bulwark/bulwarklaw12.GridUnits", spec := "gridUnits", inPlace := ["math/bits.Add64"], unfollowed := true, recurses := true, named := ["bulwark/grid.shifts", "bulwark/grid.vols", "math/bits.divideError", "math/bits.overflowError"], apart := false, laid := [("bulwark/grid.shifts", laid_bulwark_grid_shifts), ("bulwark/grid.vols", laid_bulwark_grid_vols)], narrowed := true }
def GridUnitsUptoSaid : Prop := gridUnitsUptoRow.holds Tryd.pinned (OpenSpec.upto gridUnitsSpec)

/-- 'bulwarklaw12.GridRises', WHERE WHAT IT READS IS OF BULK AT MOST 1048576: true; the input reads as it did. -/
def gridRisesUptoRow : OpenClaim := { program := "ytjfcghbifhmacaadoor", sum := "09f68a81322793ab1c417e31e4ec35bca77b32c49a876aab6fe02d79928062c0", func := "bulwark/bulwarklaw12.GridRises", spec := "gridRises", inPlace := ["math/bits.Add64"], unfollowed := true, recurses := true, named := ["bulwark/grid.shifts", "bulwark/grid.vols", "math/bits.divideError", "math/bits.overflowError"], apart := false, laid := [("bulwark/grid.shifts", laid_bulwark_grid_shifts), ("bulwark/grid.vols", laid_bulwark_grid_vols)], narrowed := true }
def GridRisesUptoSaid : Prop := gridRisesUptoRow.holds Tryd.pinned (OpenSpec.upto gridRisesSpec)

/-- 'bulwarklaw12.GridPoints', WHERE WHAT IT READS IS OF BULK AT MOST 1048576: true; the input reads as it did. -/
def gridPointsUptoRow : OpenClaim := { program := "ytjfcghbifhmacaadoor", sum := "09f68a81322793ab1c417e31e4ec35bca77b32c49a876aab6fe02d79928062c0", func := "bulwark/bulwarklaw12.GridPoints", spec := "gridPoints", inPlace := ["math/bits.Add64"], unfollowed := true, recurses := true, named := ["bulwark/grid.shifts", "bulwark/grid.vols", "math/bits.divideError", "math/bits.overflowError"], apart := false, laid := [("bulwark/grid.shifts", laid_bulwark_grid_shifts), ("bulwark/grid.vols", laid_bulwark_grid_vols)], narrowed := true }
def GridPointsUptoSaid : Prop := gridPointsUptoRow.holds Tryd.pinned (OpenSpec.upto gridPointsSpec)

/-- 'bulwarklaw12.GridWorst', WHERE WHAT IT READS IS OF BULK AT MOST 1048576: true; the input reads as it did. -/
def gridWorstUptoRow : OpenClaim := { program := "ytjfcghbifhmacaadoor", sum := "09f68a81322793ab1c417e31e4ec35bca77b32c49a876aab6fe02d79928062c0", func := "bulwark/bulwarklaw12.GridWorst", spec := "gridWorst", inPlace := ["math/bits.Add64"], unfollowed := true, recurses := true, named := ["bulwark/grid.shifts", "bulwark/grid.vols", "math/bits.divideError", "math/bits.overflowError"], apart := false, laid := [("bulwark/grid.shifts", laid_bulwark_grid_shifts), ("bulwark/grid.vols", laid_bulwark_grid_vols)], narrowed := true }
def GridWorstUptoSaid : Prop := gridWorstUptoRow.holds Tryd.pinned (OpenSpec.upto gridWorstSpec)

/-- 'bulwarklaw12.GridBounds', WHERE WHAT IT READS IS OF BULK AT MOST 1048576: true; the input reads as it did. -/
def gridBoundsUptoRow : OpenClaim := { program := "ytjfcghbifhmacaadoor", sum := "09f68a81322793ab1c417e31e4ec35bca77b32c49a876aab6fe02d79928062c0", func := "bulwark/bulwarklaw12.GridBounds", spec := "gridBounds", inPlace := ["math/bits.Add64"], unfollowed := true, recurses := true, named := ["bulwark/grid.shifts", "bulwark/grid.vols", "math/bits.divideError", "math/bits.overflowError"], apart := false, laid := [("bulwark/grid.shifts", laid_bulwark_grid_shifts), ("bulwark/grid.vols", laid_bulwark_grid_vols)], narrowed := true }
def GridBoundsUptoSaid : Prop := gridBoundsUptoRow.holds Tryd.pinned (OpenSpec.upto gridBoundsSpec)

end Rows
end Go.Proofs.YtjfcghbifhmacaaDoor
