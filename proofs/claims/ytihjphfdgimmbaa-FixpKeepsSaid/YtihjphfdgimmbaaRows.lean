/-
  No cell of these rows narrows 'for every input' (looked for: loops, veiled, ifaces, maps, wideKeys, modest, calm, conditions, laid).
  DERIVED. THE GIVEN ROWS OF THIS SEAT. 6 by the template 'for every input the law returns true; each argument reads behind the call as it read before'; 0 by the template 'total and deterministic' (their statements: YtihjphfdgimmbaaTotals.lean).
  GIVEN WITH THE SEED: the statements are not yours to turn. If you find one false, say at which input.
  Laid BY PROGRAM, IN A SANDBOX (cutbox-rows.mjs): the forced cells as the released guide's own fill.sh prints them over the translation c98d90d1dd0a8716… (all of the seat's roots in one cut). By AI agents, Wed Nov 11 2026. No macro, syntax, notation, axiom, sorry.
-/
import Derived.Test.YtihjphfdgimmbaaChecked
import GoSem.Claim
import GoSem.ClaimJoined
import GoSem.ClaimMapViews
import Derived.JoinedTies
import Derived.KernelRfl
namespace Go.Proofs.Ytihjphfdgimmbaa
/- THE CELL 'sum', in the pinned program and in every row, IS THE sha256 OF THE DUMP (.gsa) THAT YtihjphfdgimmbaaProg.lean LOADS. Nothing in Lean hashes anything: it is a label: what it is worth is what the hold of that sum in a sandbox is worth. -/
noncomputable def Try.pinned : Pinned := { name := "ytihjphfdgimmbaa", sum := "c98d90d1dd0a8716ea0b5956cebff1d3e00f118bd1705600e70126439897028b", checked := Try.checked }
namespace Rows
def none {H : Type} : Left H := { results := [], args := [] }

/-- 'bulwarklaw01.FixpDivides': WHATEVER THE INPUT: true; the input reads as it did. -/
def fixpDividesSpec : ChangeSpec := { name := "fixpDivides", fn := fun _ => fun
  | [d1, d2, d3] => { results := [.lit (.bool true)], args := [d1, d2, d3] }
  | _ => none }
def fixpDividesRow : OpenClaim := { program := "ytihjphfdgimmbaa", sum := "c98d90d1dd0a8716ea0b5956cebff1d3e00f118bd1705600e70126439897028b", func := "bulwark/bulwarklaw01.FixpDivides", spec := "fixpDivides", inPlace := ["math/bits.Add64"], named := ["math/bits.divideError", "math/bits.overflowError"], apart := false }
def FixpDividesSaid : Prop := fixpDividesRow.holds Try.pinned (OpenSpec.ofChange fixpDividesSpec)

/-- ITS FALSE NEIGHBOUR: 'it returns false'. Refute it at one input. -/
def fixpDividesWrong : ChangeSpec := { name := "fixpDivides", fn := fun _ => fun
  | [d1, d2, d3] => { results := [.lit (.bool false)], args := [d1, d2, d3] }
  | _ => none }
def FixpDividesWrongFalsely : Prop := fixpDividesRow.holds Try.pinned (OpenSpec.ofChange fixpDividesWrong)

/-- 'bulwarklaw01.FixpRounds': WHATEVER THE INPUT: true; the input reads as it did. -/
def fixpRoundsSpec : ChangeSpec := { name := "fixpRounds", fn := fun _ => fun
  | [d1, d2, d3] => { results := [.lit (.bool true)], args := [d1, d2, d3] }
  | _ => none }
def fixpRoundsRow : OpenClaim := { program := "ytihjphfdgimmbaa", sum := "c98d90d1dd0a8716ea0b5956cebff1d3e00f118bd1705600e70126439897028b", func := "bulwark/bulwarklaw01.FixpRounds", spec := "fixpRounds", inPlace := ["math/bits.Add64"], named := ["math/bits.divideError", "math/bits.overflowError"], apart := false }
def FixpRoundsSaid : Prop := fixpRoundsRow.holds Try.pinned (OpenSpec.ofChange fixpRoundsSpec)

/-- ITS FALSE NEIGHBOUR: 'it returns false'. Refute it at one input. -/
def fixpRoundsWrong : ChangeSpec := { name := "fixpRounds", fn := fun _ => fun
  | [d1, d2, d3] => { results := [.lit (.bool false)], args := [d1, d2, d3] }
  | _ => none }
def FixpRoundsWrongFalsely : Prop := fixpRoundsRow.holds Try.pinned (OpenSpec.ofChange fixpRoundsWrong)

/-- 'bulwarklaw01.FixpAdds': WHATEVER THE INPUT: true; the input reads as it did. -/
def fixpAddsSpec : ChangeSpec := { name := "fixpAdds", fn := fun _ => fun
  | [d1, d2] => { results := [.lit (.bool true)], args := [d1, d2] }
  | _ => none }
def fixpAddsRow : OpenClaim := { program := "ytihjphfdgimmbaa", sum := "c98d90d1dd0a8716ea0b5956cebff1d3e00f118bd1705600e70126439897028b", func := "bulwark/bulwarklaw01.FixpAdds", spec := "fixpAdds", inPlace := ["math/bits.Add64"], named := ["math/bits.divideError", "math/bits.overflowError"], apart := false }
def FixpAddsSaid : Prop := fixpAddsRow.holds Try.pinned (OpenSpec.ofChange fixpAddsSpec)

/-- ITS FALSE NEIGHBOUR: 'it returns false'. Refute it at one input. -/
def fixpAddsWrong : ChangeSpec := { name := "fixpAdds", fn := fun _ => fun
  | [d1, d2] => { results := [.lit (.bool false)], args := [d1, d2] }
  | _ => none }
def FixpAddsWrongFalsely : Prop := fixpAddsRow.holds Try.pinned (OpenSpec.ofChange fixpAddsWrong)

/-- 'bulwarklaw01.FixpBack': WHATEVER THE INPUT: true; the input reads as it did. -/
def fixpBackSpec : ChangeSpec := { name := "fixpBack", fn := fun _ => fun
  | [d1, d2, d3] => { results := [.lit (.bool true)], args := [d1, d2, d3] }
  | _ => none }
def fixpBackRow : OpenClaim := { program := "ytihjphfdgimmbaa", sum := "c98d90d1dd0a8716ea0b5956cebff1d3e00f118bd1705600e70126439897028b", func := "bulwark/bulwarklaw01.FixpBack", spec := "fixpBack", inPlace := ["math/bits.Add64"], named := ["math/bits.divideError", "math/bits.overflowError"], apart := false }
def FixpBackSaid : Prop := fixpBackRow.holds Try.pinned (OpenSpec.ofChange fixpBackSpec)

/-- ITS FALSE NEIGHBOUR: 'it returns false'. Refute it at one input. -/
def fixpBackWrong : ChangeSpec := { name := "fixpBack", fn := fun _ => fun
  | [d1, d2, d3] => { results := [.lit (.bool false)], args := [d1, d2, d3] }
  | _ => none }
def FixpBackWrongFalsely : Prop := fixpBackRow.holds Try.pinned (OpenSpec.ofChange fixpBackWrong)

/-- 'bulwarklaw01.FixpSums': WHATEVER THE INPUT: true; the input reads as it did. -/
def fixpSumsSpec : ChangeSpec := { name := "fixpSums", fn := fun _ => fun
  | [d] => { results := [.lit (.bool true)], args := [d] }
  | _ => none }
def fixpSumsRow : OpenClaim := { program := "ytihjphfdgimmbaa", sum := "c98d90d1dd0a8716ea0b5956cebff1d3e00f118bd1705600e70126439897028b", func := "bulwark/bulwarklaw01.FixpSums", spec := "fixpSums", inPlace := ["math/bits.Add64"], named := ["math/bits.divideError", "math/bits.overflowError"], apart := false }
def FixpSumsSaid : Prop := fixpSumsRow.holds Try.pinned (OpenSpec.ofChange fixpSumsSpec)

/-- ITS FALSE NEIGHBOUR: 'it returns false'. Refute it at one input. -/
def fixpSumsWrong : ChangeSpec := { name := "fixpSums", fn := fun _ => fun
  | [d] => { results := [.lit (.bool false)], args := [d] }
  | _ => none }
def FixpSumsWrongFalsely : Prop := fixpSumsRow.holds Try.pinned (OpenSpec.ofChange fixpSumsWrong)

/-- 'bulwarklaw01.FixpKeeps': WHATEVER THE INPUT: true; the input reads as it did. -/
def fixpKeepsSpec : ChangeSpec := { name := "fixpKeeps", fn := fun _ => fun
  | [d] => { results := [.lit (.bool true)], args := [d] }
  | _ => none }
def fixpKeepsRow : OpenClaim := { program := "ytihjphfdgimmbaa", sum := "c98d90d1dd0a8716ea0b5956cebff1d3e00f118bd1705600e70126439897028b", func := "bulwark/bulwarklaw01.FixpKeeps", spec := "fixpKeeps", inPlace := ["math/bits.Add64"], named := ["math/bits.divideError", "math/bits.overflowError"], apart := false }
def FixpKeepsSaid : Prop := fixpKeepsRow.holds Try.pinned (OpenSpec.ofChange fixpKeepsSpec)

/-- ITS FALSE NEIGHBOUR: 'it returns false'. Refute it at one input. -/
def fixpKeepsWrong : ChangeSpec := { name := "fixpKeeps", fn := fun _ => fun
  | [d] => { results := [.lit (.bool false)], args := [d] }
  | _ => none }
def FixpKeepsWrongFalsely : Prop := fixpKeepsRow.holds Try.pinned (OpenSpec.ofChange fixpKeepsWrong)

/- THE SECOND FORM. 'bulk': how many values and letters a reading holds, each counted each time it is reached (what is shared counts as often as it is met; a slice's spare places count too). A statement '..UptoSaid' is the law's where the arguments, and the package variables that the reading takes, are together of bulk at most 1048576: NARROWER than '..Said'. Prove '..Said' where nothing that the law and all that it calls make is longer than what came in: it says more and counts as full. Else prove '..UptoSaid'. A law counts once. -/
mutual
def uptoBulk {H : Type} : DataW H → Nat
  | .lit (.string bytes) => bytes.length + 1
  | .lit _ => 1
  | .nil => 1
  | .ptr d => uptoBulk d + 1
  | .slice elems spare => uptoBulkAll elems + uptoBulkAll spare + 1
  | .agg parts => uptoBulkAll parts + 1
  | .iface _ d => uptoBulk d + 1
  | .map entries => uptoBulkEntries entries + 1
  | .held _ => 1
def uptoBulkAll {H : Type} : List (DataW H) → Nat
  | [] => 0
  | d :: r => uptoBulk d + uptoBulkAll r
def uptoBulkEntries {H : Type} : List (Lit × DataW H) → Nat
  | [] => 0
  | x :: r => uptoBulkEntry x + uptoBulkEntries r
def uptoBulkEntry {H : Type} : Lit × DataW H → Nat
  | (.string bytes, d) => bytes.length + uptoBulk d + 1
  | (_, d) => uptoBulk d + 1
 end
def uptoSmall : (H : Type) → List (DataW H) → Bool := fun _ ds => decide (uptoBulkAll ds ≤ 1048576)
def OpenSpec.upto (s : _root_.Go.ChangeSpec) : _root_.Go.OpenSpec := { _root_.Go.OpenSpec.ofChange s with cond := some uptoSmall }

/-- 'bulwarklaw01.FixpDivides', WHERE WHAT IT READS IS OF BULK AT MOST 1048576: true; the input reads as it did. -/
def fixpDividesUptoRow : OpenClaim := { program := "ytihjphfdgimmbaa", sum := "c98d90d1dd0a8716ea0b5956cebff1d3e00f118bd1705600e70126439897028b", func := "bulwark/bulwarklaw01.FixpDivides", spec := "fixpDivides", inPlace := ["math/bits.Add64"], named := ["math/bits.divideError", "math/bits.overflowError"], apart := false, narrowed := true }
def FixpDividesUptoSaid : Prop := fixpDividesUptoRow.holds Try.pinned (OpenSpec.upto fixpDividesSpec)

/-- 'bulwarklaw01.FixpRounds', WHERE WHAT IT READS IS OF BULK AT MOST 1048576: true; the input reads as it did. -/
def fixpRoundsUptoRow : OpenClaim := { program := "ytihjphfdgimmbaa", sum := "c98d90d1dd0a8716ea0b5956cebff1d3e00f118bd1705600e70126439897028b", func := "bulwark/bulwarklaw01.FixpRounds", spec := "fixpRounds", inPlace := ["math/bits.Add64"], named := ["math/bits.divideError", "math/bits.overflowError"], apart := false, narrowed := true }
def FixpRoundsUptoSaid : Prop := fixpRoundsUptoRow.holds Try.pinned (OpenSpec.upto fixpRoundsSpec)

/-- 'bulwarklaw01.FixpAdds', WHERE WHAT IT READS IS OF BULK AT MOST 1048576: true; the input reads as it did. -/
def fixpAddsUptoRow : OpenClaim := { program := "ytihjphfdgimmbaa", sum := "c98d90d1dd0a8716ea0b5956cebff1d3e00f118bd1705600e70126439897028b", func := "bulwark/bulwarklaw01.FixpAdds", spec := "fixpAdds", inPlace := ["math/bits.Add64"], named := ["math/bits.divideError", "math/bits.overflowError"], apart := false, narrowed := true }
def FixpAddsUptoSaid : Prop := fixpAddsUptoRow.holds Try.pinned (OpenSpec.upto fixpAddsSpec)

/-- 'bulwarklaw01.FixpBack', WHERE WHAT IT READS IS OF BULK AT MOST 1048576: true; the input reads as it did. -/
def fixpBackUptoRow : OpenClaim := { program := "ytihjphfdgimmbaa", sum := "c98d90d1dd0a8716ea0b5956cebff1d3e00f118bd1705600e70126439897028b", func := "bulwark/bulwarklaw01.FixpBack", spec := "fixpBack", inPlace := ["math/bits.Add64"], named := ["math/bits.divideError", "math/bits.overflowError"], apart := false, narrowed := true }
def FixpBackUptoSaid : Prop := fixpBackUptoRow.holds Try.pinned (OpenSpec.upto fixpBackSpec)

/-- 'bulwarklaw01.FixpSums', WHERE WHAT IT READS IS OF BULK AT MOST 1048576: true; the input reads as it did. -/
def fixpSumsUptoRow : OpenClaim := { program := "ytihjphfdgimmbaa", sum := "c98d90d1dd0a8716ea0b5956cebff1d3e00f118bd1705600e70126439897028b", func := "bulwark/bulwarklaw01.FixpSums", spec := "fixpSums", inPlace := ["math/bits.Add64"], named := ["math/bits.divideError", "math/bits.overflowError"], apart := false, narrowed := true }
def FixpSumsUptoSaid : Prop := fixpSumsUptoRow.holds Try.pinned (OpenSpec.upto fixpSumsSpec)

/-- 'bulwarklaw01.FixpKeeps', WHERE WHAT IT READS IS OF BULK AT MOST 1048576: true; the input reads as it did. -/
def fixpKeepsUptoRow : OpenClaim := { program := "ytihjphfdgimmbaa", sum := "c98d90d1dd0a8716ea0b5956cebff1d3e00f118bd1705600e70126439897028b", func := "bulwark/bulwarklaw01.FixpKeeps", spec := "fixpKeeps", inPlace := ["math/bits.Add64"], named := ["math/bits.divideError", "math/bits.overflowError"], apart := false, narrowed := true }
def FixpKeepsUptoSaid : Prop := fixpKeepsUptoRow.holds Try.pinned (OpenSpec.upto fixpKeepsSpec)

end Rows
end Go.Proofs.Ytihjphfdgimmbaa
