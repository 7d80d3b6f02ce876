/- The argument []api.Field opened, for layer 7's laws; the table of powers out of what is laid. -/
import Derived.Test.YtckcnenhnniogaaDoorTagBody
import Derived.Test.YtckcnenhnniogaaDoorBaseRows
import Derived.Test.YtckcnenhnniogaaDoorBaseLaid
import Derived.Test.YtckcnenhnniogaaDoorBaseStr
import Derived.Test.YtckcnenhnniogaaDoorBaseAgg
set_option linter.unusedSimpArgs false
set_option linter.unusedVariables false
namespace Go.Proofs.YtckcnenhnniogaaDoor.TagW
open Go.ChangeShapes Go.WideShapes Go.ChangeAt Go.RowKit Go.Proofs.YtckcnenhnniogaaDoor.Bas Go.Proofs.YtckcnenhnniogaaDoor.FixpW Go.Proofs.YtckcnenhnniogaaDoor.DecW Go.Proofs.YtckcnenhnniogaaDoor.FldW Go.Proofs.YtckcnenhnniogaaDoor.TagM

theorem i64_wf {x : Int} (h : (Lit.int .i64 x).wf = true) : I64 x := by
  simp [Lit.wf, IntKind.min, IntKind.max, IntKind.signed, IntKind.bits] at h
  exact h
theorem cells64 : Tryd.prog.cellsOf 3 = 1 := by kernel_rfl
theorem cellsS : Tryd.prog.cellsOf 9 = 1 := by kernel_rfl
/-- a listed datum's cells -/
def flat1 : DataW Unit → List Value
  | .lit (.int k z) => [.int k z]
  | _ => []
def flat2 : DataW Unit → List Value
  | .agg ps => ps.flatMap fun
    | .agg qs => qs.flatMap flat1
    | d => flat1 d
  | d => flat1 d
def datCells (d : DataW Unit) : Array Value := (flat2 d).toArray

theorem gPow : Tryd.prog.globalNamed "internal/strconv.uint64pow10" = some 2 := by kernel_rfl
theorem gPowType : (Tryd.prog.globals[2]?).map (·.type) = some 99 := by kernel_rfl
theorem cellsU64 : Tryd.prog.cellsOf 85 = 1 := by kernel_rfl
theorem cellsP20 : Tryd.prog.cellsOf 99 = 20 := by kernel_rfl
theorem tabIs_of_vars {P : Program} {W : World} {name : String} {k : IntKind} {zs : List Int} {rest : List (String × DataW Unit)} {g : Nat} {t e : TypeId} {n : Nat}
    (hg : P.globalNamed name = some g) (hty : (P.globals[g]?).map (·.type) = some t) (ht : P.underlying t = some (.array n e)) (he : P.underlying e = some (.int k)) (hce : P.cellsOf e = 1) (hct : P.cellsOf t = n)
    (h : ∃ ps, DataW.LaidVars P W ((name, Lib.tabData k zs) :: rest) ps) : Lib.TabIs P W name k zs := by
  obtain ⟨ps, g', t', cs, fuel, p, q, hg', ht', hvar, hd, _, _⟩ := h
  obtain rfl := Option.some.inj (hg.symm.trans hg')
  obtain rfl := Option.some.inj (hty.symm.trans ht')
  unfold Lib.TabIs
  rw [hvar, ← Lib.cells_of_tab ht he hce hct hd]
theorem pow_data : (Rows.laid_internal_strconv_uint64pow10 : DataW Unit) = Lib.tabData .u64 Lib.pow10Tab := by
  unfold Rows.laid_internal_strconv_uint64pow10 Lib.tabData
  rfl
theorem pow_of_laid {W : World} {rest : List (String × DataW Unit)} (h : ∃ ps, DataW.LaidVars Tryd.prog W (("internal/strconv.uint64pow10", Rows.laid_internal_strconv_uint64pow10) :: rest) ps) : Pow W := by
  rw [pow_data] at h
  exact tabIs_of_vars gPow gPowType Tryd.underlying99 Tryd.underlying85 cellsU64 cellsP20 h
theorem pow_laidT {W : World} (h : laidMetH Tryd.prog [("math/bits.deBruijn32tab", Rows.laid_math_bits_deBruijn32tab), ("math/bits.deBruijn64tab", Rows.laid_math_bits_deBruijn64tab), ("internal/strconv.uint64pow10", Rows.laid_internal_strconv_uint64pow10), ("bytes.ErrTooLarge", Rows.laid_bytes_ErrTooLarge)] W) : Pow W := by
  have h1 : ∃ ps, DataW.LaidVars Tryd.prog W [("math/bits.deBruijn32tab", Rows.laid_math_bits_deBruijn32tab), ("math/bits.deBruijn64tab", Rows.laid_math_bits_deBruijn64tab), ("internal/strconv.uint64pow10", Rows.laid_internal_strconv_uint64pow10), ("bytes.ErrTooLarge", Rows.laid_bytes_ErrTooLarge)] ps := laid_vars h
  exact pow_of_laid (laid_tail (laid_tail h1))
theorem cellsOf_field : Tryd.prog.cellsOf 39 = 2 := by kernel_rfl
/-- fields that can be handed in -/
def FldOk (f : Fld) : Prop := I64 f.1 ∧ f.2.length ≤ 140737488351232
theorem reach_str {P : Program} {H : Type} {t : TypeId} {l : List UInt8} (h : ∀ x ∈ (DataW.lit (H := H) (.string l)).weights P t, x ≤ reachBytes) : l.length ≤ 140737488351232 := by
  have := h l.length (by simp [DataW.weights])
  exact Nat.le_trans this (by decide)
set_option maxRecDepth 100000 in
theorem row_field {H : Type} {enc : TypeId × Value → H} {W : World} {r : List Value} {m : Nat} {y : DataW H × List MemPlace}
    (hl : r.length = 2) (h : DataW.trod enc Tryd.prog W 0 (fun _ => true) true m 39 r = some y) (hw : ∀ x ∈ y.1.weights Tryd.prog 39, x ≤ reachBytes) :
    ∃ f : Fld, r = fcell f ∧ FldOk f := by
  match r, hl with
  | [r0, r1], _ =>
    obtain ⟨y0, y1, n, rfl, _, h0, h1⟩ := trod_struct2 Tryd.underlying39 h
    obtain ⟨z, hz, _, wz⟩ := DataW.trod_int Tryd.underlying3 h0
    obtain ⟨s, hs, hy, _⟩ := DataW.trod_string Tryd.underlying9 h1
    have hz' : r0 = .int .i64 z := by simpa [cells64] using hz
    have hs' : r1 = .string s := by simpa [cellsS] using hs
    subst hz' hs'
    have hd : y1.1 = .lit (.string s.data.toList) := by rw [hy]
    refine ⟨(z, s.data.toList), ?_, i64_wf wz, ?_⟩
    · show _ = [Value.int .i64 z, .string ⟨s.data.toList.toArray⟩]
      rw [← ba_of s]
    · have h2 := reach_field (i := 1) (d := y1.1) Tryd.underlying39 hw rfl rfl
      rw [hd] at h2
      exact reach_str h2
set_option maxRecDepth 100000 in
theorem open_fieldsArg {H : Type} {enc : TypeId × Value → H} {W : World} {base : Nat} {v : Value} {d : DataW H} {p : List MemPlace}
    (hv : Value.okWide Tryd.prog W .any base 26 v) (h : DataW.Trod enc Tryd.prog W 0 (fun _ => true) true 26 v d p) (hw : ∀ x ∈ d.weights Tryd.prog 26, x ≤ reachBytes) :
    ∃ (a : Option Addr) (fs : List Fld) (cap : Nat), v = .slice a fs.length cap ∧ At W a (fcells fs) ∧ fs.length ≤ cap ∧ cap ≤ 5864062014806 ∧ ∀ f ∈ fs, FldOk f := by
  obtain ⟨a, rows, cap, rfl, hl, hat, hc, hm, hd⟩ := open_rows Tryd.underlying26 hv h
  have each : ∀ (rs : List (List Value)), (∀ r ∈ rs, ∃ f : Fld, r = fcell f ∧ FldOk f) → ∃ fs : List Fld, fs.length = rs.length ∧ rs.flatten = fcells fs ∧ ∀ f ∈ fs, FldOk f := by
    intro rs
    induction rs with
    | nil => intro _; exact ⟨[], rfl, rfl, by simp⟩
    | cons r rs ih =>
      intro hr
      obtain ⟨fs, h1, h2, h3⟩ := ih (fun r h => hr r (List.mem_cons_of_mem _ h))
      obtain ⟨f, rfl, hf⟩ := hr r List.mem_cons_self
      refine ⟨f :: fs, by simp [h1], ?_, ?_⟩
      · rw [List.flatten_cons, h2]; rfl
      · intro g hg
        rcases List.mem_cons.1 hg with rfl | hg
        · exact hf
        · exact h3 g hg
  obtain ⟨fs, h1, h2, h3⟩ := each rows (by
    rcases hd with ⟨_, _, rfl, _⟩ | ⟨es, sp, rfl, hes, _, hrows⟩
    · simp
    · intro r hr
      obtain ⟨i, hi⟩ := List.getElem?_of_mem hr
      obtain ⟨m, y, ht, he⟩ := hrows i r hi
      exact row_field (by rw [hl r hr, cellsOf_field]) ht (reach_elem Tryd.underlying26 hw he))
  have hcap : cap ≤ 5864062014806 := by
    rcases hd with ⟨_, rfl, _, _⟩ | ⟨es, sp, rfl, hes, hcp, _⟩
    · omega
    · have := hw ((es.length + sp.length) * Tryd.prog.bytesOf 39) (by simp only [DataW.weights, Tryd.underlying26]; exact List.mem_cons_self)
      rw [show Tryd.prog.bytesOf 39 = 24 by kernel_rfl] at this
      unfold reachBytes at this
      omega
  have _ := hm
  refine ⟨a, fs, cap, by rw [h1], by rw [← h2]; exact hat, by omega, hcap, h3⟩
end Go.Proofs.YtckcnenhnniogaaDoor.TagW
