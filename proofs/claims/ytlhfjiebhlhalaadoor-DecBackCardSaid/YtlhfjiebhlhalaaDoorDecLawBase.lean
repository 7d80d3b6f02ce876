/- Layer 2's laws: the wakes, and the table of powers from what is laid. -/
import Derived.Test.YtlhfjiebhlhalaaDoorDecRef
import Derived.Test.YtlhfjiebhlhalaaDoorDecRParse
import Derived.Test.YtlhfjiebhlhalaaDoorBaseLaid
import Derived.ChangeMaps5
namespace Go.Proofs.YtlhfjiebhlhalaaDoor.DecW
open Go.ChangeShapes Go.WideShapes Go.ChangeAt Go.RowKit Go.Proofs.YtlhfjiebhlhalaaDoor.Bas Go.Proofs.YtlhfjiebhlhalaaDoor.DecM Go.Proofs.YtlhfjiebhlhalaaDoor.FixpM Go.Proofs.YtlhfjiebhlhalaaDoor.FixpW

theorem len5 : len 5 2 = 3 := by unfold len; rw [Lib.nDigits_small (by decide)]; rfl
theorem fmt5 : FmtV (-5) 2 = .tuple #[.string ⟨#[45, 48, 46, 48, 53]⟩, .int .i64 0] := by
  rw [FmtV_ok (by omega) (by decide)]
  have e : fmtF (-5) (2 : Int).toNat = [45, 48, 46, 48, 53] := by
    show (if (-5 : Int) < 0 then [45] else []) ++ fmtL 5 2 = _
    unfold fmtL
    rw [len5]
    decide
  rw [e]
theorem par15 : ParV [49, 46, 53] 3 = .tuple #[.int .i64 1500, .int .i64 0] :=
  ParV_of (t := [49, 46, 53]) (p := 3) (by omega) (by decide)

set_option maxHeartbeats 400000 in
theorem wakes_calls (w : World) (ht : Pow w) : Calls Tryd.prog 7 #[] w fun e w' => e = .returned (.bool true) ∧ Below w.heap.size w w' := by
  have C1 := format_calls (-5) 2 w (by unfold I64; omega) (by unfold I64; omega) ht
  have C2 := fun W => parse_calls [49, 46, 53] 3 W (by decide) (by unfold I64; omega)
  rw [fmt5] at C1
  rw [par15] at C2
  have D1 := Lib.hid C1
  have D2 := Lib.hid C2
  clear C1 C2
  go_enter Tryd.func7, Tryd.ntmps7
  go_wp2_with (first
    | (go_at_call 8; refine D1.out.mono ?_; rintro e w1 ⟨rfl, b1⟩)
    | (go_at_call 10; refine (D2.out _).mono ?_; rintro e w2 ⟨rfl, b2⟩))
  go_ret
  exact ⟨rfl, b1.trans (b2.mono b1.size)⟩

theorem i64_wf {x : Int} (h : (Lit.int .i64 x).wf = true) : I64 x := by
  simp [Lit.wf, IntKind.min, IntKind.max, IntKind.signed, IntKind.bits] at h
  exact h
/-- a listed datum's cells -/
def flat1 : DataW Unit → List Value
  | .lit (.int k z) => [.int k z]
  | _ => []
def flat2 : DataW Unit → List Value
  | .agg ps => ps.flatMap fun
    | .agg qs => qs.flatMap flat1
    | d => flat1 d
  | d => flat1 d
def datCells (d : DataW Unit) : Array Value := (flat2 d).toArray

theorem gPow : Tryd.prog.globalNamed "internal/strconv.uint64pow10" = some 3 := by kernel_rfl
theorem gPowType : (Tryd.prog.globals[3]?).map (·.type) = some 101 := by kernel_rfl
theorem cellsU64 : Tryd.prog.cellsOf 42 = 1 := by kernel_rfl
theorem cellsP20 : Tryd.prog.cellsOf 101 = 20 := by kernel_rfl
theorem tabIs_of_vars {P : Program} {W : World} {name : String} {k : IntKind} {zs : List Int} {rest : List (String × DataW Unit)} {g : Nat} {t e : TypeId} {n : Nat}
    (hg : P.globalNamed name = some g) (hty : (P.globals[g]?).map (·.type) = some t) (ht : P.underlying t = some (.array n e)) (he : P.underlying e = some (.int k)) (hce : P.cellsOf e = 1) (hct : P.cellsOf t = n)
    (h : ∃ ps, DataW.LaidVars P W ((name, Lib.tabData k zs) :: rest) ps) : Lib.TabIs P W name k zs := by
  obtain ⟨ps, g', t', cs, fuel, p, q, hg', ht', hvar, hd, _, _⟩ := h
  obtain rfl := Option.some.inj (hg.symm.trans hg')
  obtain rfl := Option.some.inj (hty.symm.trans ht')
  unfold Lib.TabIs
  rw [hvar, ← Lib.cells_of_tab ht he hce hct hd]
theorem pow_data : (Rows.laid_internal_strconv_uint64pow10 : DataW Unit) = Lib.tabData .u64 Lib.pow10Tab := by
  unfold Rows.laid_internal_strconv_uint64pow10 Lib.tabData
  rfl
theorem pow_of_laid {W : World} {rest : List (String × DataW Unit)} (h : ∃ ps, DataW.LaidVars Tryd.prog W (("internal/strconv.uint64pow10", Rows.laid_internal_strconv_uint64pow10) :: rest) ps) : Pow W := by
  rw [pow_data] at h
  exact tabIs_of_vars gPow gPowType Tryd.underlying101 Tryd.underlying42 cellsU64 cellsP20 h
theorem pow_laid {W : World} (h : laidMetH Tryd.prog [("math/bits.deBruijn32tab", Rows.laid_math_bits_deBruijn32tab), ("math/bits.deBruijn64tab", Rows.laid_math_bits_deBruijn64tab), ("internal/strconv.uint64pow10", Rows.laid_internal_strconv_uint64pow10), ("unicode/utf8.acceptRanges", Rows.laid_unicode_utf8_acceptRanges), ("strconv.ErrRange", Rows.laid_strconv_ErrRange), ("strconv.ErrSyntax", Rows.laid_strconv_ErrSyntax), ("unicode/utf8.first", Rows.laid_unicode_utf8_first)] W) : Pow W := by
  have h1 : ∃ ps, DataW.LaidVars Tryd.prog W [("math/bits.deBruijn32tab", Rows.laid_math_bits_deBruijn32tab), ("math/bits.deBruijn64tab", Rows.laid_math_bits_deBruijn64tab), ("internal/strconv.uint64pow10", Rows.laid_internal_strconv_uint64pow10), ("unicode/utf8.acceptRanges", Rows.laid_unicode_utf8_acceptRanges), ("strconv.ErrRange", Rows.laid_strconv_ErrRange), ("strconv.ErrSyntax", Rows.laid_strconv_ErrSyntax), ("unicode/utf8.first", Rows.laid_unicode_utf8_first)] ps := laid_vars h
  exact pow_of_laid (laid_tail (laid_tail h1))
/-- the form's reach bounds a text -/
theorem str_reach {P : Program} {H : Type} {t : TypeId} {l : List UInt8} (h : ∀ x ∈ (DataW.lit (H := H) (.string l)).weights P t, x ≤ reachBytes) : l.length ≤ 140737488351232 := by
  have := h l.length (by simp [DataW.weights])
  exact Nat.le_trans this (by decide)
end Go.Proofs.YtlhfjiebhlhalaaDoor.DecW
