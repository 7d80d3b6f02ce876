/- What the laws of layer 9 are handed. -/
import Derived.Test.YtghcbkkabhlchaaDoorRefName
import Derived.Test.YtghcbkkabhlchaaDoorRefLaws
import Derived.Test.YtghcbkkabhlchaaDoorBaseAgg
import Derived.Test.YtghcbkkabhlchaaDoorBaseStr
import Derived.Test.YtghcbkkabhlchaaDoorBaseLaid
namespace Go.Proofs.YtghcbkkabhlchaaDoor.RefW
open Go.ChangeShapes Go.WideShapes Go.ChangeAt Go.RowKit Go.Proofs.YtghcbkkabhlchaaDoor.Bas Go.Proofs.YtghcbkkabhlchaaDoor.FixpM Go.Proofs.YtghcbkkabhlchaaDoor.FixpW

theorem i64_wf {x : Int} (h : (Lit.int .i64 x).wf = true) : I64 x := by
  simpa [Lit.wf, IntKind.min, IntKind.max, IntKind.signed, IntKind.bits, I64] using h
theorem cells64 : Tryd.prog.cellsOf 3 = 1 := by kernel_rfl
theorem cellsB : Tryd.prog.cellsOf 4 = 1 := by kernel_rfl
theorem cellsS : Tryd.prog.cellsOf 9 = 1 := by kernel_rfl
theorem cellsOf_cur : Tryd.prog.cellsOf 23 = 2 := by kernel_rfl
theorem open_cur {H : Type} {enc : TypeId × Value → H} {W : World} {base : Nat} {v : Value} {d : DataW H} {p : List MemPlace}
    (hv : Value.okWide Tryd.prog W .any base 23 v) (h : DataW.Trod enc Tryd.prog W 0 (fun _ => true) true 23 v d p) :
    ∃ r h, v = curV r h ∧ I64 r ∧ I64 h := by
  obtain ⟨L, rfl, hL, hi, _⟩ := open_agg Tryd.underlying23 hv h
  rw [cellsOf_cur] at hL
  match L, hL with
  | [a0, a1], _ =>
    obtain ⟨z0, h0, w0⟩ := hi 0 _ .i64 rfl cells64 Tryd.underlying3
    obtain ⟨z1, h1, w1⟩ := hi 1 _ .i64 rfl cells64 Tryd.underlying3
    simp at h0 h1
    subst h0 h1
    exact ⟨z0, z1, rfl, i64_wf w0, i64_wf w1⟩
/-- the tables' cells, for a witness -/
def accepts : List Nat := [128, 191, 160, 191, 128, 159, 144, 191, 128, 143, 0, 0, 0, 0, 0, 0, 0, 0, 0, 0, 0, 0, 0, 0, 0, 0, 0, 0, 0, 0, 0, 0]
def acceptCells : Array Value := (accepts.map fun (n : Nat) => Value.int .u8 (n : Int)).toArray
def firstCells : Array Value := (Go.Pinned.utf8FirstZ.map fun (n : Nat) => Value.int .u8 (n : Int)).toArray
end Go.Proofs.YtghcbkkabhlchaaDoor.RefW
