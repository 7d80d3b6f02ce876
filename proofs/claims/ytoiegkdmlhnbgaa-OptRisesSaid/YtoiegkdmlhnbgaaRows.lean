/-
  No cell of these rows narrows 'for every input' (looked for: loops, veiled, ifaces, maps, wideKeys, modest, calm, conditions, laid).
  DERIVED. THE GIVEN ROWS OF THIS SEAT. 4 by the template 'for every input the law returns true; each argument reads behind the call as it read before'; 0 by the template 'total and deterministic' (their statements: YtoiegkdmlhnbgaaTotals.lean).
  GIVEN WITH THE SEED: the statements are not yours to turn. If you find one false, say at which input.
  Laid BY PROGRAM, IN A SANDBOX (cutbox-rows.mjs): the forced cells as the released guide's own fill.sh prints them over the translation 438a39e46902246f… (all of the seat's roots in one cut). By AI agents, Wed Nov 11 2026. No macro, syntax, notation, axiom, sorry.
-/
import Derived.Test.YtoiegkdmlhnbgaaChecked
import GoSem.Claim
import GoSem.ClaimJoined
import GoSem.ClaimMapViews
import Derived.JoinedTies
import Derived.KernelRfl
namespace Go.Proofs.Ytoiegkdmlhnbgaa
/- THE CELL 'sum', in the pinned program and in every row, IS THE sha256 OF THE DUMP (.gsa) THAT YtoiegkdmlhnbgaaProg.lean LOADS. Nothing in Lean hashes anything: it is a label: what it is worth is what the hold of that sum in a sandbox is worth. -/
noncomputable def Try.pinned : Pinned := { name := "ytoiegkdmlhnbgaa", sum := "438a39e46902246fb0870c128cfd01b66874f4286b7dc34d1d2696b3e4109a3b", checked := Try.checked }
namespace Rows
def none {H : Type} : Left H := { results := [], args := [] }

/-- 'bulwarklaw11.OptValues': WHATEVER THE INPUT: true; the input reads as it did. -/
def optValuesSpec : ChangeSpec := { name := "optValues", fn := fun _ => fun
  | [d1, d2] => { results := [.lit (.bool true)], args := [d1, d2] }
  | _ => none }
def optValuesRow : OpenClaim := { program := "ytoiegkdmlhnbgaa", sum := "438a39e46902246fb0870c128cfd01b66874f4286b7dc34d1d2696b3e4109a3b", func := "bulwark/bulwarklaw11.OptValues", spec := "optValues", inPlace := ["math/bits.Add64"], unfollowed := true, recurses := true, named := ["math/bits.divideError", "math/bits.overflowError"], apart := false }
def OptValuesSaid : Prop := optValuesRow.holds Try.pinned (OpenSpec.ofChange optValuesSpec)

/-- ITS FALSE NEIGHBOUR: 'it returns false'. Refute it at one input. -/
def optValuesWrong : ChangeSpec := { name := "optValues", fn := fun _ => fun
  | [d1, d2] => { results := [.lit (.bool false)], args := [d1, d2] }
  | _ => none }
def OptValuesWrongFalsely : Prop := optValuesRow.holds Try.pinned (OpenSpec.ofChange optValuesWrong)

/-- 'bulwarklaw11.OptRises': WHATEVER THE INPUT: true; the input reads as it did. -/
def optRisesSpec : ChangeSpec := { name := "optRises", fn := fun _ => fun
  | [d1, d2] => { results := [.lit (.bool true)], args := [d1, d2] }
  | _ => none }
def optRisesRow : OpenClaim := { program := "ytoiegkdmlhnbgaa", sum := "438a39e46902246fb0870c128cfd01b66874f4286b7dc34d1d2696b3e4109a3b", func := "bulwark/bulwarklaw11.OptRises", spec := "optRises", inPlace := ["math/bits.Add64"], unfollowed := true, recurses := true, named := ["math/bits.divideError", "math/bits.overflowError"], apart := false }
def OptRisesSaid : Prop := optRisesRow.holds Try.pinned (OpenSpec.ofChange optRisesSpec)

/-- ITS FALSE NEIGHBOUR: 'it returns false'. Refute it at one input. -/
def optRisesWrong : ChangeSpec := { name := "optRises", fn := fun _ => fun
  | [d1, d2] => { results := [.lit (.bool false)], args := [d1, d2] }
  | _ => none }
def OptRisesWrongFalsely : Prop := optRisesRow.holds Try.pinned (OpenSpec.ofChange optRisesWrong)

/-- 'bulwarklaw11.OptPairs': WHATEVER THE INPUT: true; the input reads as it did. -/
def optPairsSpec : ChangeSpec := { name := "optPairs", fn := fun _ => fun
  | [d] => { results := [.lit (.bool true)], args := [d] }
  | _ => none }
def optPairsRow : OpenClaim := { program := "ytoiegkdmlhnbgaa", sum := "438a39e46902246fb0870c128cfd01b66874f4286b7dc34d1d2696b3e4109a3b", func := "bulwark/bulwarklaw11.OptPairs", spec := "optPairs", inPlace := ["math/bits.Add64"], unfollowed := true, recurses := true, named := ["math/bits.divideError", "math/bits.overflowError"], apart := false }
def OptPairsSaid : Prop := optPairsRow.holds Try.pinned (OpenSpec.ofChange optPairsSpec)

/-- ITS FALSE NEIGHBOUR: 'it returns false'. Refute it at one input. -/
def optPairsWrong : ChangeSpec := { name := "optPairs", fn := fun _ => fun
  | [d] => { results := [.lit (.bool false)], args := [d] }
  | _ => none }
def OptPairsWrongFalsely : Prop := optPairsRow.holds Try.pinned (OpenSpec.ofChange optPairsWrong)

/-- 'bulwarklaw11.OptUnits': WHATEVER THE INPUT: true; the input reads as it did. -/
def optUnitsSpec : ChangeSpec := { name := "optUnits", fn := fun _ => fun
  | [d1, d2, d3] => { results := [.lit (.bool true)], args := [d1, d2, d3] }
  | _ => none }
def optUnitsRow : OpenClaim := { program := "ytoiegkdmlhnbgaa", sum := "438a39e46902246fb0870c128cfd01b66874f4286b7dc34d1d2696b3e4109a3b", func := "bulwark/bulwarklaw11.OptUnits", spec := "optUnits", inPlace := ["math/bits.Add64"], unfollowed := true, recurses := true, named := ["math/bits.divideError", "math/bits.overflowError"], apart := false }
def OptUnitsSaid : Prop := optUnitsRow.holds Try.pinned (OpenSpec.ofChange optUnitsSpec)

/-- ITS FALSE NEIGHBOUR: 'it returns false'. Refute it at one input. -/
def optUnitsWrong : ChangeSpec := { name := "optUnits", fn := fun _ => fun
  | [d1, d2, d3] => { results := [.lit (.bool false)], args := [d1, d2, d3] }
  | _ => none }
def OptUnitsWrongFalsely : Prop := optUnitsRow.holds Try.pinned (OpenSpec.ofChange optUnitsWrong)

/- THE SECOND FORM. 'bulk': how many values and letters a reading holds, each counted each time it is reached (what is shared counts as often as it is met; a slice's spare places count too). A statement '..UptoSaid' is the law's where the arguments, and the package variables that the reading takes, are together of bulk at most 1048576: NARROWER than '..Said'. Prove '..Said' where nothing that the law and all that it calls make is longer than what came in: it says more and counts as full. Else prove '..UptoSaid'. A law counts once. -/
mutual
def uptoBulk {H : Type} : DataW H → Nat
  | .lit (.string bytes) => bytes.length + 1
  | .lit _ => 1
  | .nil => 1
  | .ptr d => uptoBulk d + 1
  | .slice elems spare => uptoBulkAll elems + uptoBulkAll spare + 1
  | .agg parts => uptoBulkAll parts + 1
  | .iface _ d => uptoBulk d + 1
  | .map entries => uptoBulkEntries entries + 1
  | .held _ => 1
def uptoBulkAll {H : Type} : List (DataW H) → Nat
  | [] => 0
  | d :: r => uptoBulk d + uptoBulkAll r
def uptoBulkEntries {H : Type} : List (Lit × DataW H) → Nat
  | [] => 0
  | x :: r => uptoBulkEntry x + uptoBulkEntries r
def uptoBulkEntry {H : Type} : Lit × DataW H → Nat
  | (.string bytes, d) => bytes.length + uptoBulk d + 1
  | (_, d) => uptoBulk d + 1
 end
def uptoSmall : (H : Type) → List (DataW H) → Bool := fun _ ds => decide (uptoBulkAll ds ≤ 1048576)
def OpenSpec.upto (s : _root_.Go.ChangeSpec) : _root_.Go.OpenSpec := { _root_.Go.OpenSpec.ofChange s with cond := some uptoSmall }

/-- 'bulwarklaw11.OptValues', WHERE WHAT IT READS IS OF BULK AT MOST 1048576: true; the input reads as it did. -/
def optValuesUptoRow : OpenClaim := { program := "ytoiegkdmlhnbgaa", sum := "438a39e46902246fb0870c128cfd01b66874f4286b7dc34d1d2696b3e4109a3b", func := "bulwark/bulwarklaw11.OptValues", spec := "optValues", inPlace := ["math/bits.Add64"], unfollowed := true, recurses := true, named := ["math/bits.divideError", "math/bits.overflowError"], apart := false, narrowed := true }
def OptValuesUptoSaid : Prop := optValuesUptoRow.holds Try.pinned (OpenSpec.upto optValuesSpec)

/-- 'bulwarklaw11.OptRises', WHERE WHAT IT READS IS OF BULK AT MOST 1048576: true; the input reads as it did. -/
def optRisesUptoRow : OpenClaim := { program := "ytoiegkdmlhnbgaa", sum := "438a39e46902246fb0870c128cfd01b66874f4286b7dc34d1d2696b3e4109a3b", func := "bulwark/bulwarklaw11.OptRises", spec := "optRises", inPlace := ["math/bits.Add64"], unfollowed := true, recurses := true, named := ["math/bits.divideError", "math/bits.overflowError"], apart := false, narrowed := true }
def OptRisesUptoSaid : Prop := optRisesUptoRow.holds Try.pinned (OpenSpec.upto optRisesSpec)

/-- 'bulwarklaw11.OptPairs', WHERE WHAT IT READS IS OF BULK AT MOST 1048576: true; the input reads as it did. -/
def optPairsUptoRow : OpenClaim := { program := "ytoiegkdmlhnbgaa", sum := "438a39e46902246fb0870c128cfd01b66874f4286b7dc34d1d2696b3e4109a3b", func := "bulwark/bulwarklaw11.OptPairs", spec := "optPairs", inPlace := ["math/bits.Add64"], unfollowed := true, recurses := true, named := ["math/bits.divideError", "math/bits.overflowError"], apart := false, narrowed := true }
def OptPairsUptoSaid : Prop := optPairsUptoRow.holds Try.pinned (OpenSpec.upto optPairsSpec)

/-- 'bulwarklaw11.OptUnits', WHERE WHAT IT READS IS OF BULK AT MOST 1048576: true; the input reads as it did. -/
def optUnitsUptoRow : OpenClaim := { program := "ytoiegkdmlhnbgaa", sum := "438a39e46902246fb0870c128cfd01b66874f4286b7dc34d1d2696b3e4109a3b", func := "bulwark/bulwarklaw11.OptUnits", spec := "optUnits", inPlace := ["math/bits.Add64"], unfollowed := true, recurses := true, named := ["math/bits.divideError", "math/bits.overflowError"], apart := false, narrowed := true }
def OptUnitsUptoSaid : Prop := optUnitsUptoRow.holds Try.pinned (OpenSpec.upto optUnitsSpec)

end Rows
end Go.Proofs.Ytoiegkdmlhnbgaa
