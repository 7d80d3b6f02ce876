/-
  No cell of these rows narrows 'for every input' (looked for: loops, veiled, ifaces, maps, wideKeys, modest, calm, conditions, laid).
  DERIVED. THE GIVEN ROWS OF THIS SEAT. 4 by the template 'for every input the law returns true; each argument reads behind the call as it read before'; 0 by the template 'total and deterministic' (their statements: YtmnhmlbpaebabaaTotals.lean).
  GIVEN WITH THE SEED: the statements are not yours to turn. If you find one false, say at which input.
  Laid BY PROGRAM, IN A SANDBOX (cutbox-rows.mjs): the forced cells as the released guide's own fill.sh prints them over the translation b959ada2ab3f9328… (all of the seat's roots in one cut). By AI agents, Wed Nov 11 2026. No macro, syntax, notation, axiom, sorry.
-/
import Derived.Test.YtmnhmlbpaebabaaChecked
import GoSem.Claim
import GoSem.ClaimJoined
import GoSem.ClaimMapViews
import Derived.JoinedTies
import Derived.KernelRfl
namespace Go.Proofs.Ytmnhmlbpaebabaa
/- THE CELL 'sum', in the pinned program and in every row, IS THE sha256 OF THE DUMP (.gsa) THAT YtmnhmlbpaebabaaProg.lean LOADS. Nothing in Lean hashes anything: it is a label: what it is worth is what the hold of that sum in a sandbox is worth. -/
noncomputable def Try.pinned : Pinned := { name := "ytmnhmlbpaebabaa", sum := "b959ada2ab3f9328c7203d11f3e58419eb900c3cb559fa9ffc241218926c6ce5", checked := Try.checked }
namespace Rows
def none {H : Type} : Left H := { results := [], args := [] }

/-- 'bulwarklaw10.TreeAnswers': WHATEVER THE INPUT: true; the input reads as it did. -/
def treeAnswersSpec : ChangeSpec := { name := "treeAnswers", fn := fun _ => fun
  | [d1, d2, d3] => { results := [.lit (.bool true)], args := [d1, d2, d3] }
  | _ => none }
def treeAnswersRow : OpenClaim := { program := "ytmnhmlbpaebabaa", sum := "b959ada2ab3f9328c7203d11f3e58419eb900c3cb559fa9ffc241218926c6ce5", func := "bulwark/bulwarklaw10.TreeAnswers", spec := "treeAnswers", unfollowed := true, recurses := true, apart := false }
def TreeAnswersSaid : Prop := treeAnswersRow.holds Try.pinned (OpenSpec.ofChange treeAnswersSpec)

/-- ITS FALSE NEIGHBOUR: 'it returns false'. Refute it at one input. -/
def treeAnswersWrong : ChangeSpec := { name := "treeAnswers", fn := fun _ => fun
  | [d1, d2, d3] => { results := [.lit (.bool false)], args := [d1, d2, d3] }
  | _ => none }
def TreeAnswersWrongFalsely : Prop := treeAnswersRow.holds Try.pinned (OpenSpec.ofChange treeAnswersWrong)

/-- 'bulwarklaw10.TreeTwoWays': WHATEVER THE INPUT: true; the input reads as it did. -/
def treeTwoWaysSpec : ChangeSpec := { name := "treeTwoWays", fn := fun _ => fun
  | [d1, d2, d3] => { results := [.lit (.bool true)], args := [d1, d2, d3] }
  | _ => none }
def treeTwoWaysRow : OpenClaim := { program := "ytmnhmlbpaebabaa", sum := "b959ada2ab3f9328c7203d11f3e58419eb900c3cb559fa9ffc241218926c6ce5", func := "bulwark/bulwarklaw10.TreeTwoWays", spec := "treeTwoWays", unfollowed := true, recurses := true, apart := false }
def TreeTwoWaysSaid : Prop := treeTwoWaysRow.holds Try.pinned (OpenSpec.ofChange treeTwoWaysSpec)

/-- ITS FALSE NEIGHBOUR: 'it returns false'. Refute it at one input. -/
def treeTwoWaysWrong : ChangeSpec := { name := "treeTwoWays", fn := fun _ => fun
  | [d1, d2, d3] => { results := [.lit (.bool false)], args := [d1, d2, d3] }
  | _ => none }
def TreeTwoWaysWrongFalsely : Prop := treeTwoWaysRow.holds Try.pinned (OpenSpec.ofChange treeTwoWaysWrong)

/-- 'bulwarklaw10.TreeKeeps': WHATEVER THE INPUT: true; the input reads as it did. -/
def treeKeepsSpec : ChangeSpec := { name := "treeKeeps", fn := fun _ => fun
  | [d1, d2] => { results := [.lit (.bool true)], args := [d1, d2] }
  | _ => none }
def treeKeepsRow : OpenClaim := { program := "ytmnhmlbpaebabaa", sum := "b959ada2ab3f9328c7203d11f3e58419eb900c3cb559fa9ffc241218926c6ce5", func := "bulwark/bulwarklaw10.TreeKeeps", spec := "treeKeeps", unfollowed := true, recurses := true, apart := false }
def TreeKeepsSaid : Prop := treeKeepsRow.holds Try.pinned (OpenSpec.ofChange treeKeepsSpec)

/-- ITS FALSE NEIGHBOUR: 'it returns false'. Refute it at one input. -/
def treeKeepsWrong : ChangeSpec := { name := "treeKeeps", fn := fun _ => fun
  | [d1, d2] => { results := [.lit (.bool false)], args := [d1, d2] }
  | _ => none }
def TreeKeepsWrongFalsely : Prop := treeKeepsRow.holds Try.pinned (OpenSpec.ofChange treeKeepsWrong)

/-- 'bulwarklaw10.TreeChecks': WHATEVER THE INPUT: true; the input reads as it did. -/
def treeChecksSpec : ChangeSpec := { name := "treeChecks", fn := fun _ => fun
  | [d] => { results := [.lit (.bool true)], args := [d] }
  | _ => none }
def treeChecksRow : OpenClaim := { program := "ytmnhmlbpaebabaa", sum := "b959ada2ab3f9328c7203d11f3e58419eb900c3cb559fa9ffc241218926c6ce5", func := "bulwark/bulwarklaw10.TreeChecks", spec := "treeChecks", unfollowed := true, recurses := true, apart := false }
def TreeChecksSaid : Prop := treeChecksRow.holds Try.pinned (OpenSpec.ofChange treeChecksSpec)

/-- ITS FALSE NEIGHBOUR: 'it returns false'. Refute it at one input. -/
def treeChecksWrong : ChangeSpec := { name := "treeChecks", fn := fun _ => fun
  | [d] => { results := [.lit (.bool false)], args := [d] }
  | _ => none }
def TreeChecksWrongFalsely : Prop := treeChecksRow.holds Try.pinned (OpenSpec.ofChange treeChecksWrong)

/- THE SECOND FORM. 'bulk': how many values and letters a reading holds, each counted each time it is reached (what is shared counts as often as it is met; a slice's spare places count too). A statement '..UptoSaid' is the law's where the arguments, and the package variables that the reading takes, are together of bulk at most 1048576: NARROWER than '..Said'. Prove '..Said' where nothing that the law and all that it calls make is longer than what came in: it says more and counts as full. Else prove '..UptoSaid'. A law counts once. -/
mutual
def uptoBulk {H : Type} : DataW H → Nat
  | .lit (.string bytes) => bytes.length + 1
  | .lit _ => 1
  | .nil => 1
  | .ptr d => uptoBulk d + 1
  | .slice elems spare => uptoBulkAll elems + uptoBulkAll spare + 1
  | .agg parts => uptoBulkAll parts + 1
  | .iface _ d => uptoBulk d + 1
  | .map entries => uptoBulkEntries entries + 1
  | .held _ => 1
def uptoBulkAll {H : Type} : List (DataW H) → Nat
  | [] => 0
  | d :: r => uptoBulk d + uptoBulkAll r
def uptoBulkEntries {H : Type} : List (Lit × DataW H) → Nat
  | [] => 0
  | x :: r => uptoBulkEntry x + uptoBulkEntries r
def uptoBulkEntry {H : Type} : Lit × DataW H → Nat
  | (.string bytes, d) => bytes.length + uptoBulk d + 1
  | (_, d) => uptoBulk d + 1
 end
def uptoSmall : (H : Type) → List (DataW H) → Bool := fun _ ds => decide (uptoBulkAll ds ≤ 1048576)
def OpenSpec.upto (s : _root_.Go.ChangeSpec) : _root_.Go.OpenSpec := { _root_.Go.OpenSpec.ofChange s with cond := some uptoSmall }

/-- 'bulwarklaw10.TreeAnswers', WHERE WHAT IT READS IS OF BULK AT MOST 1048576: true; the input reads as it did. -/
def treeAnswersUptoRow : OpenClaim := { program := "ytmnhmlbpaebabaa", sum := "b959ada2ab3f9328c7203d11f3e58419eb900c3cb559fa9ffc241218926c6ce5", func := "bulwark/bulwarklaw10.TreeAnswers", spec := "treeAnswers", unfollowed := true, recurses := true, apart := false, narrowed := true }
def TreeAnswersUptoSaid : Prop := treeAnswersUptoRow.holds Try.pinned (OpenSpec.upto treeAnswersSpec)

/-- 'bulwarklaw10.TreeTwoWays', WHERE WHAT IT READS IS OF BULK AT MOST 1048576: true; the input reads as it did. -/
def treeTwoWaysUptoRow : OpenClaim := { program := "ytmnhmlbpaebabaa", sum := "b959ada2ab3f9328c7203d11f3e58419eb900c3cb559fa9ffc241218926c6ce5", func := "bulwark/bulwarklaw10.TreeTwoWays", spec := "treeTwoWays", unfollowed := true, recurses := true, apart := false, narrowed := true }
def TreeTwoWaysUptoSaid : Prop := treeTwoWaysUptoRow.holds Try.pinned (OpenSpec.upto treeTwoWaysSpec)

/-- 'bulwarklaw10.TreeKeeps', WHERE WHAT IT READS IS OF BULK AT MOST 1048576: true; the input reads as it did. -/
def treeKeepsUptoRow : OpenClaim := { program := "ytmnhmlbpaebabaa", sum := "b959ada2ab3f9328c7203d11f3e58419eb900c3cb559fa9ffc241218926c6ce5", func := "bulwark/bulwarklaw10.TreeKeeps", spec := "treeKeeps", unfollowed := true, recurses := true, apart := false, narrowed := true }
def TreeKeepsUptoSaid : Prop := treeKeepsUptoRow.holds Try.pinned (OpenSpec.upto treeKeepsSpec)

/-- 'bulwarklaw10.TreeChecks', WHERE WHAT IT READS IS OF BULK AT MOST 1048576: true; the input reads as it did. -/
def treeChecksUptoRow : OpenClaim := { program := "ytmnhmlbpaebabaa", sum := "b959ada2ab3f9328c7203d11f3e58419eb900c3cb559fa9ffc241218926c6ce5", func := "bulwark/bulwarklaw10.TreeChecks", spec := "treeChecks", unfollowed := true, recurses := true, apart := false, narrowed := true }
def TreeChecksUptoSaid : Prop := treeChecksUptoRow.holds Try.pinned (OpenSpec.upto treeChecksSpec)

end Rows
end Go.Proofs.Ytmnhmlbpaebabaa
