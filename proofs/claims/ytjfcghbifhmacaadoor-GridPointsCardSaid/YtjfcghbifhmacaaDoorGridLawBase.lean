/- What the laws of layer 12 are handed: the two tables, instruments, underlyings. -/
import Derived.Test.YtjfcghbifhmacaaDoorGridNow
import Derived.Test.YtjfcghbifhmacaaDoorBaseAgg
import Derived.Test.YtjfcghbifhmacaaDoorBaseStr
import Derived.Test.YtjfcghbifhmacaaDoorBaseLaid
namespace Go.Proofs.YtjfcghbifhmacaaDoor.GridW
open Go.ChangeShapes Go.WideShapes Go.ChangeAt Go.RowKit Go.Proofs.YtjfcghbifhmacaaDoor.Bas Go.Proofs.YtjfcghbifhmacaaDoor.FixpM Go.Proofs.YtjfcghbifhmacaaDoor.FixpW Go.Proofs.YtjfcghbifhmacaaDoor.OptW

theorem i64_wf {x : Int} (h : (Lit.int .i64 x).wf = true) : I64 x := by
  simpa [Lit.wf, IntKind.min, IntKind.max, IntKind.signed, IntKind.bits, I64] using h
theorem cells64 : Tryd.prog.cellsOf 3 = 1 := by kernel_rfl
theorem cellsB : Tryd.prog.cellsOf 4 = 1 := by kernel_rfl
theorem cellsS : Tryd.prog.cellsOf 9 = 1 := by kernel_rfl
theorem cellsOf_instr : Tryd.prog.cellsOf 23 = 7 := by kernel_rfl
theorem cellsOf_under : Tryd.prog.cellsOf 25 = 4 := by kernel_rfl
theorem open_instr {H : Type} {enc : TypeId × Value → H} {W : World} {base : Nat} {v : Value} {d : DataW H} {p : List MemPlace}
    (hv : Value.okWide Tryd.prog W .any base 23 v) (h : DataW.Trod enc Tryd.prog W 0 (fun _ => true) true 23 v d p) :
    ∃ k u m s x c r, v = instrV k u m s x c r ∧ (∀ z ∈ [k, u, m, s, x, r], I64 z) := by
  obtain ⟨L, rfl, hL, hi, hb⟩ := open_agg Tryd.underlying23 hv h
  rw [cellsOf_instr] at hL
  match L, hL with
  | [a0, a1, a2, a3, a4, a5, a6], _ =>
    obtain ⟨z0, h0, w0⟩ := hi 0 _ .i64 rfl cells64 Tryd.underlying3
    obtain ⟨z1, h1, w1⟩ := hi 1 _ .i64 rfl cells64 Tryd.underlying3
    obtain ⟨z2, h2, w2⟩ := hi 2 _ .i64 rfl cells64 Tryd.underlying3
    obtain ⟨z3, h3, w3⟩ := hi 3 _ .i64 rfl cells64 Tryd.underlying3
    obtain ⟨z4, h4, w4⟩ := hi 4 _ .i64 rfl cells64 Tryd.underlying3
    obtain ⟨z5, h5⟩ := hb 5 _ rfl cellsB Tryd.underlying4
    obtain ⟨z6, h6, w6⟩ := hi 6 _ .i64 rfl cells64 Tryd.underlying3
    simp at h0 h1 h2 h3 h4 h5 h6
    subst h0 h1 h2 h3 h4 h5 h6
    refine ⟨z0, z1, z2, z3, z4, z5, z6, rfl, ?_⟩
    intro z hz
    simp only [List.mem_cons, List.not_mem_nil, or_false] at hz
    rcases hz with rfl | rfl | rfl | rfl | rfl | rfl
    · exact i64_wf w0
    · exact i64_wf w1
    · exact i64_wf w2
    · exact i64_wf w3
    · exact i64_wf w4
    · exact i64_wf w6
theorem open_under {H : Type} {enc : TypeId × Value → H} {W : World} {base : Nat} {v : Value} {d : DataW H} {p : List MemPlace}
    (hv : Value.okWide Tryd.prog W .any base 25 v) (h : DataW.Trod enc Tryd.prog W 0 (fun _ => true) true 25 v d p) :
    ∃ n c pr vo, v = underV n c pr vo ∧ I64 c ∧ I64 pr ∧ I64 vo := by
  obtain ⟨L, rfl, hL, hi, _⟩ := open_agg Tryd.underlying25 hv h
  obtain ⟨L', ds, e, _, _, _, hf⟩ := open_fields Tryd.underlying25 hv h
  obtain rfl : L = L' := by simpa using e
  rw [cellsOf_under] at hL
  match L, hL with
  | [a0, a1, a2, a3], _ =>
    obtain ⟨s, y, m, hs, _, ht⟩ := hf 0 _ rfl cellsS
    obtain ⟨n, hn, _, _⟩ := DataW.trod_string Tryd.underlying9 ht
    obtain ⟨z1, h1, w1⟩ := hi 1 _ .i64 rfl cells64 Tryd.underlying3
    obtain ⟨z2, h2, w2⟩ := hi 2 _ .i64 rfl cells64 Tryd.underlying3
    obtain ⟨z3, h3, w3⟩ := hi 3 _ .i64 rfl cells64 Tryd.underlying3
    simp at hs h1 h2 h3 hn
    subst hs h1 h2 h3 hn
    exact ⟨n, z1, z2, z3, rfl, i64_wf w1, i64_wf w2, i64_wf w3⟩

theorem gShift : Tryd.prog.globalNamed "bulwark/grid.shifts" = some 0 := by kernel_rfl
theorem gShiftType : (Tryd.prog.globals[0]?).map (·.type) = some 48 := by kernel_rfl
theorem gVol : Tryd.prog.globalNamed "bulwark/grid.vols" = some 1 := by kernel_rfl
theorem gVolType : (Tryd.prog.globals[1]?).map (·.type) = some 49 := by kernel_rfl
theorem cells7 : Tryd.prog.cellsOf 48 = 7 := by kernel_rfl
theorem cells3 : Tryd.prog.cellsOf 49 = 3 := by kernel_rfl
/-- what the rows' list gives -/
theorem tab_of_laid {W : World} (h : laidMetH Tryd.prog [("bulwark/grid.shifts", Rows.laid_bulwark_grid_shifts), ("bulwark/grid.vols", Rows.laid_bulwark_grid_vols)] W) : Tab W := by
  have h1 : ∃ ps, DataW.LaidVars Tryd.prog W [("bulwark/grid.shifts", Lib.tabData .i64 shifts), ("bulwark/grid.vols", Lib.tabData .i64 vols)] ps := laid_vars h
  exact ⟨tab_of_vars gShift gShiftType Tryd.underlying48 Tryd.underlying3 cells64 cells7 h1, tab_of_vars gVol gVolType Tryd.underlying49 Tryd.underlying3 cells64 cells3 (laid_tail h1)⟩
/-- the tables' cells, for a witness -/
def shiftCells : Array Value := (shifts.map (Value.int .i64)).toArray
def volCells : Array Value := (vols.map (Value.int .i64)).toArray
end Go.Proofs.YtjfcghbifhmacaaDoor.GridW
