/-
  NARROWER THAN 'FOR EVERY INPUT', by the rows' own cells (each row's printed sentence says how): SumExact: laid · SumTells: laid · SumTurns: laid · SumKeeps: laid.
  DERIVED. THE GIVEN ROWS OF THIS SEAT. 4 by the template 'for every input the law returns true; each argument reads behind the call as it read before'; 0 by the template 'total and deterministic' (their statements: YtddhcemdkhhikaaDoorTotals.lean).
  GIVEN WITH THE SEED: the statements are not yours to turn. If you find one false, say at which input.
  Laid BY PROGRAM, IN A SANDBOX (cutbox-rows.mjs): the forced cells as the released guide's own fill.sh prints them over the translation 0f39cff730f5c4fa… (all of the seat's roots in one cut). By AI agents, Wed Nov 11 2026. No macro, syntax, notation, axiom, sorry.
-/
import Derived.Test.YtddhcemdkhhikaaDoorChecked
import GoSem.Claim
import GoSem.ClaimJoined
import GoSem.ClaimMapViews
import Derived.JoinedTies
import Derived.KernelRfl
namespace Go.Proofs.YtddhcemdkhhikaaDoor
/- THE CELL 'sum', in the pinned program and in every row, IS THE sha256 OF THE DUMP (.gsa) THAT YtddhcemdkhhikaaDoorProg.lean LOADS. Nothing in Lean hashes anything: it is a label: what it is worth is what the hold of that sum in a sandbox is worth. -/
noncomputable def Tryd.pinned : Pinned := { name := "ytddhcemdkhhikaadoor", sum := "0f39cff730f5c4fa52d059e882180e362501aa108d8a7bdd00bd5326d9ba3239", checked := Tryd.checked }
namespace Rows
def none {H : Type} : Left H := { results := [], args := [] }

/- WHAT THE LISTED PACKAGE-LEVEL VARIABLES READ AS WHEN THE CALL BEGINS. Each datum BY PROGRAM (the guide's laid-datum.mjs) off the statement by which the dump's own 'gosem.cut.vars' lays the variable. In a bare row this is a premise. The card (YtddhcemdkhhikaaDoorCards.lean) ties it to the program's text. -/
def laid_bulwark_sum_half {H : Type} : DataW H := .agg [.lit (.int .u32 0), .lit (.int .u32 498536548), .lit (.int .u32 997073096), .lit (.int .u32 651767980), .lit (.int .u32 1994146192), .lit (.int .u32 1802195444), .lit (.int .u32 1303535960), .lit (.int .u32 1342533948), .lit (.int .u32 3988292384), .lit (.int .u32 4027552580), .lit (.int .u32 3604390888), .lit (.int .u32 3412177804), .lit (.int .u32 2607071920), .lit (.int .u32 2262029012), .lit (.int .u32 2685067896), .lit (.int .u32 3183342108)]

/-- 'bulwarklaw03.SumExact': WHATEVER THE INPUT: true; the input reads as it did. -/
def sumExactSpec : ChangeSpec := { name := "sumExact", fn := fun _ => fun
  | [d] => { results := [.lit (.bool true)], args := [d] }
  | _ => none }
def sumExactRow : OpenClaim := { program := "ytddhcemdkhhikaadoor", sum := "0f39cff730f5c4fa52d059e882180e362501aa108d8a7bdd00bd5326d9ba3239", func := "bulwark/bulwarklaw03.SumExact", spec := "sumExact", named := ["bulwark/sum.half"], apart := false, laid := [("bulwark/sum.half", laid_bulwark_sum_half)] }
def SumExactSaid : Prop := sumExactRow.holds Tryd.pinned (OpenSpec.ofChange sumExactSpec)

/-- ITS FALSE NEIGHBOUR: 'it returns false'. Refute it at one input. -/
def sumExactWrong : ChangeSpec := { name := "sumExact", fn := fun _ => fun
  | [d] => { results := [.lit (.bool false)], args := [d] }
  | _ => none }
def SumExactWrongFalsely : Prop := sumExactRow.holds Tryd.pinned (OpenSpec.ofChange sumExactWrong)

/-- 'bulwarklaw03.SumTells': WHATEVER THE INPUT: true; the input reads as it did. -/
def sumTellsSpec : ChangeSpec := { name := "sumTells", fn := fun _ => fun
  | [d1, d2, d3] => { results := [.lit (.bool true)], args := [d1, d2, d3] }
  | _ => none }
def sumTellsRow : OpenClaim := { program := "ytddhcemdkhhikaadoor", sum := "0f39cff730f5c4fa52d059e882180e362501aa108d8a7bdd00bd5326d9ba3239", func := "bulwark/bulwarklaw03.SumTells", spec := "sumTells", named := ["bulwark/sum.half"], apart := false, laid := [("bulwark/sum.half", laid_bulwark_sum_half)] }
def SumTellsSaid : Prop := sumTellsRow.holds Tryd.pinned (OpenSpec.ofChange sumTellsSpec)

/-- ITS FALSE NEIGHBOUR: 'it returns false'. Refute it at one input. -/
def sumTellsWrong : ChangeSpec := { name := "sumTells", fn := fun _ => fun
  | [d1, d2, d3] => { results := [.lit (.bool false)], args := [d1, d2, d3] }
  | _ => none }
def SumTellsWrongFalsely : Prop := sumTellsRow.holds Tryd.pinned (OpenSpec.ofChange sumTellsWrong)

/-- 'bulwarklaw03.SumTurns': WHATEVER THE INPUT: true; the input reads as it did. -/
def sumTurnsSpec : ChangeSpec := { name := "sumTurns", fn := fun _ => fun
  | [d1, d2] => { results := [.lit (.bool true)], args := [d1, d2] }
  | _ => none }
def sumTurnsRow : OpenClaim := { program := "ytddhcemdkhhikaadoor", sum := "0f39cff730f5c4fa52d059e882180e362501aa108d8a7bdd00bd5326d9ba3239", func := "bulwark/bulwarklaw03.SumTurns", spec := "sumTurns", named := ["bulwark/sum.half"], apart := false, laid := [("bulwark/sum.half", laid_bulwark_sum_half)] }
def SumTurnsSaid : Prop := sumTurnsRow.holds Tryd.pinned (OpenSpec.ofChange sumTurnsSpec)

/-- ITS FALSE NEIGHBOUR: 'it returns false'. Refute it at one input. -/
def sumTurnsWrong : ChangeSpec := { name := "sumTurns", fn := fun _ => fun
  | [d1, d2] => { results := [.lit (.bool false)], args := [d1, d2] }
  | _ => none }
def SumTurnsWrongFalsely : Prop := sumTurnsRow.holds Tryd.pinned (OpenSpec.ofChange sumTurnsWrong)

/-- 'bulwarklaw03.SumKeeps': WHATEVER THE INPUT: true; the input reads as it did. -/
def sumKeepsSpec : ChangeSpec := { name := "sumKeeps", fn := fun _ => fun
  | [d] => { results := [.lit (.bool true)], args := [d] }
  | _ => none }
def sumKeepsRow : OpenClaim := { program := "ytddhcemdkhhikaadoor", sum := "0f39cff730f5c4fa52d059e882180e362501aa108d8a7bdd00bd5326d9ba3239", func := "bulwark/bulwarklaw03.SumKeeps", spec := "sumKeeps", named := ["bulwark/sum.half"], apart := false, laid := [("bulwark/sum.half", laid_bulwark_sum_half)] }
def SumKeepsSaid : Prop := sumKeepsRow.holds Tryd.pinned (OpenSpec.ofChange sumKeepsSpec)

/-- ITS FALSE NEIGHBOUR: 'it returns false'. Refute it at one input. -/
def sumKeepsWrong : ChangeSpec := { name := "sumKeeps", fn := fun _ => fun
  | [d] => { results := [.lit (.bool false)], args := [d] }
  | _ => none }
def SumKeepsWrongFalsely : Prop := sumKeepsRow.holds Tryd.pinned (OpenSpec.ofChange sumKeepsWrong)

/- THE SECOND FORM. 'bulk': how many values and letters a reading holds, each counted each time it is reached (what is shared counts as often as it is met; a slice's spare places count too). A statement '..UptoSaid' is the law's where the arguments, and the package variables that the reading takes, are together of bulk at most 1048576: NARROWER than '..Said'. Prove '..Said' where nothing that the law and all that it calls make is longer than what came in: it says more and counts as full. Else prove '..UptoSaid'. A law counts once. -/
mutual
def uptoBulk {H : Type} : DataW H → Nat
  | .lit (.string bytes) => bytes.length + 1
  | .lit _ => 1
  | .nil => 1
  | .ptr d => uptoBulk d + 1
  | .slice elems spare => uptoBulkAll elems + uptoBulkAll spare + 1
  | .agg parts => uptoBulkAll parts + 1
  | .iface _ d => uptoBulk d + 1
  | .map entries => uptoBulkEntries entries + 1
  | .held _ => 1
def uptoBulkAll {H : Type} : List (DataW H) → Nat
  | [] => 0
  | d :: r => uptoBulk d + uptoBulkAll r
def uptoBulkEntries {H : Type} : List (Lit × DataW H) → Nat
  | [] => 0
  | x :: r => uptoBulkEntry x + uptoBulkEntries r
def uptoBulkEntry {H : Type} : Lit × DataW H → Nat
  | (.string bytes, d) => bytes.length + uptoBulk d + 1
  | (_, d) => uptoBulk d + 1
 end
def uptoSmall : (H : Type) → List (DataW H) → Bool := fun _ ds => decide (uptoBulkAll ds ≤ 1048576)
def OpenSpec.upto (s : _root_.Go.ChangeSpec) : _root_.Go.OpenSpec := { _root_.Go.OpenSpec.ofChange s with cond := some uptoSmall }

/-- 'bulwarklaw03.SumExact', WHERE WHAT IT READS IS OF BULK AT MOST 1048576: true; the input reads as it did. -/
def sumExactUptoRow : OpenClaim := { program := "ytddhcemdkhhikaadoor", sum := "0f39cff730f5c4fa52d059e882180e362501aa108d8a7bdd00bd5326d9ba3239", func := "bulwark/bulwarklaw03.SumExact", spec := "sumExact", named := ["bulwark/sum.half"], apart := false, laid := [("bulwark/sum.half", laid_bulwark_sum_half)], narrowed := true }
def SumExactUptoSaid : Prop := sumExactUptoRow.holds Tryd.pinned (OpenSpec.upto sumExactSpec)

/-- 'bulwarklaw03.SumTells', WHERE WHAT IT READS IS OF BULK AT MOST 1048576: true; the input reads as it did. -/
def sumTellsUptoRow : OpenClaim := { program := "ytddhcemdkhhikaadoor", sum := "0f39cff730f5c4fa52d059e882180e362501aa108d8a7bdd00bd5326d9ba3239", func := "bulwark/bulwarklaw03.SumTells", spec := "sumTells", named := ["bulwark/sum.half"], apart := false, laid := [("bulwark/sum.half", laid_bulwark_sum_half)], narrowed := true }
def SumTellsUptoSaid : Prop := sumTellsUptoRow.holds Tryd.pinned (OpenSpec.upto sumTellsSpec)

/-- 'bulwarklaw03.SumTurns', WHERE WHAT IT READS IS OF BULK AT MOST 1048576: true; the input reads as it did. -/
def sumTurnsUptoRow : OpenClaim := { program := "ytddhcemdkhhikaadoor", sum := "0f39cff730f5c4fa52d059e882180e362501aa108d8a7bdd00bd5326d9ba3239", func := "bulwark/bulwarklaw03.SumTurns", spec := "sumTurns", named := ["bulwark/sum.half"], apart := false, laid := [("bulwark/sum.half", laid_bulwark_sum_half)], narrowed := true }
def SumTurnsUptoSaid : Prop := sumTurnsUptoRow.holds Tryd.pinned (OpenSpec.upto sumTurnsSpec)

/-- 'bulwarklaw03.SumKeeps', WHERE WHAT IT READS IS OF BULK AT MOST 1048576: true; the input reads as it did. -/
def sumKeepsUptoRow : OpenClaim := { program := "ytddhcemdkhhikaadoor", sum := "0f39cff730f5c4fa52d059e882180e362501aa108d8a7bdd00bd5326d9ba3239", func := "bulwark/bulwarklaw03.SumKeeps", spec := "sumKeeps", named := ["bulwark/sum.half"], apart := false, laid := [("bulwark/sum.half", laid_bulwark_sum_half)], narrowed := true }
def SumKeepsUptoSaid : Prop := sumKeepsUptoRow.holds Tryd.pinned (OpenSpec.upto sumKeepsSpec)

end Rows
end Go.Proofs.YtddhcemdkhhikaaDoor
