/- The arguments of layer 22's laws opened: an Event, a Reply; and the table of powers. -/
import Derived.Test.YtbpndiegbfpigaaGreatDoorPortLawBase
import Derived.Test.YtbpndiegbfpigaaGreatDoorBaseAgg
import Derived.Test.YtbpndiegbfpigaaGreatDoorBaseStr
namespace Go.Proofs.YtbpndiegbfpigaaGreatDoor.PortW
open Go.ChangeShapes Go.WideShapes Go.ChangeAt Go.RowKit Go.Proofs.YtbpndiegbfpigaaGreatDoor.Bas Go.Proofs.YtbpndiegbfpigaaGreatDoor.DecM Go.Proofs.YtbpndiegbfpigaaGreatDoor.FixpM Go.Proofs.YtbpndiegbfpigaaGreatDoor.FixpW Go.Proofs.YtbpndiegbfpigaaGreatDoor.DecW Go.Proofs.YtbpndiegbfpigaaGreatDoor.FldW Go.Proofs.YtbpndiegbfpigaaGreatDoor.PortM

theorem i64_wf {x : Int} (h : (Lit.int .i64 x).wf = true) : I64 x := by
  simp [Lit.wf, IntKind.min, IntKind.max, IntKind.signed, IntKind.bits] at h
  exact h
theorem cells64 : Tryz.prog.cellsOf 3 = 1 := by kernel_rfl
theorem cellsB : Tryz.prog.cellsOf 4 = 1 := by kernel_rfl
theorem cellsS : Tryz.prog.cellsOf 9 = 1 := by kernel_rfl
theorem cellsOf_event : Tryz.prog.cellsOf 23 = 12 := by kernel_rfl
theorem cellsOf_reply : Tryz.prog.cellsOf 37 = 2 := by kernel_rfl
theorem num_i64 {v : Ev} (h1 : I64 v.acct) (h2 : I64 v.id) (h3 : I64 v.amount) (h4 : I64 v.cur) (h5 : I64 v.qty) (h6 : I64 v.new) (h7 : I64 v.price) (h8 : I64 v.instr) (h9 : I64 v.under) (t : Int) : I64 (num v t) := by
  unfold num
  (repeat' split) <;> assumption
set_option maxRecDepth 100000 in
theorem open_event {H : Type} {enc : TypeId × Value → H} {W : World} {base : Nat} {v : Value} {d : DataW H} {p : List MemPlace}
    (hv : Value.okWide Tryz.prog W .any base 23 v) (h : DataW.Trod enc Tryz.prog W 0 (fun _ => true) true 23 v d p) :
    ∃ x : Ev, v = .agg (Ev.cells x) ∧ I64 x.kind ∧ ∀ t, I64 (num x t) := by
  obtain ⟨L, rfl, hL, hi, hb⟩ := open_agg Tryz.underlying23 hv h
  obtain ⟨L', ds, e, _, _, _, hf⟩ := open_fields Tryz.underlying23 hv h
  obtain rfl : L = L' := by simpa using e
  rw [cellsOf_event] at hL
  match L, hL with
  | [a0, a1, a2, a3, a4, a5, a6, a7, a8, a9, a10, a11], _ =>
    obtain ⟨s, y, m, hs, _, ht⟩ := hf 11 _ rfl cellsS
    obtain ⟨n, hn, _, hz⟩ := DataW.trod_string Tryz.underlying9 ht
    obtain ⟨z0, h0, w0⟩ := hi 0 _ .i64 rfl cells64 Tryz.underlying3
    obtain ⟨z1, h1, w1⟩ := hi 1 _ .i64 rfl cells64 Tryz.underlying3
    obtain ⟨z2, h2, w2⟩ := hi 2 _ .i64 rfl cells64 Tryz.underlying3
    obtain ⟨z3, h3, w3⟩ := hi 3 _ .i64 rfl cells64 Tryz.underlying3
    obtain ⟨z4, h4, w4⟩ := hi 4 _ .i64 rfl cells64 Tryz.underlying3
    obtain ⟨z5, h5, w5⟩ := hi 5 _ .i64 rfl cells64 Tryz.underlying3
    obtain ⟨z6, h6, w6⟩ := hi 6 _ .i64 rfl cells64 Tryz.underlying3
    obtain ⟨z7, h7, w7⟩ := hi 7 _ .i64 rfl cells64 Tryz.underlying3
    obtain ⟨z8, h8, w8⟩ := hi 8 _ .i64 rfl cells64 Tryz.underlying3
    obtain ⟨z9, h9, w9⟩ := hi 9 _ .i64 rfl cells64 Tryz.underlying3
    obtain ⟨z10, h10⟩ := hb 10 _ rfl cellsB Tryz.underlying4
    simp at hs h0 h1 h2 h3 h4 h5 h6 h7 h8 h9 h10 hn
    subst hs h0 h1 h2 h3 h4 h5 h6 h7 h8 h9 h10 hn
    refine ⟨⟨z0, z1, z2, z3, z4, z5, z6, z7, z8, z9, z10, n.data.toList⟩, ?_, i64_wf w0, num_i64 (i64_wf w1) (i64_wf w2) (i64_wf w9) (i64_wf w6) (i64_wf w7) (i64_wf w3) (i64_wf w8) (i64_wf w4) (i64_wf w5)⟩
    show _ = Value.agg #[_, _, _, _, _, _, _, _, _, _, _, .string ⟨n.data.toList.toArray⟩]
    rw [← ba_of n]
set_option maxRecDepth 100000 in
theorem open_reply {H : Type} {enc : TypeId × Value → H} {W : World} {base : Nat} {v : Value} {d : DataW H} {p : List MemPlace}
    (hv : Value.okWide Tryz.prog W .any base 37 v) (h : DataW.Trod enc Tryz.prog W 0 (fun _ => true) true 37 v d p) :
    ∃ c n, v = .agg #[.int .i64 c, .int .i64 n] ∧ I64 c ∧ I64 n := by
  obtain ⟨L, rfl, hL, hi, _⟩ := open_agg Tryz.underlying37 hv h
  rw [cellsOf_reply] at hL
  match L, hL with
  | [a0, a1], _ =>
    obtain ⟨z0, h0, w0⟩ := hi 0 _ .i64 rfl (by kernel_rfl) (by kernel_rfl)
    obtain ⟨z1, h1, w1⟩ := hi 1 _ .i64 rfl cells64 Tryz.underlying3
    simp at h0 h1
    subst h0 h1
    exact ⟨z0, z1, rfl, i64_wf w0, i64_wf w1⟩
/-- a listed datum's cells -/
def flat1 : DataW Unit → List Value
  | .lit (.int k z) => [.int k z]
  | _ => []
def flat2 : DataW Unit → List Value
  | .agg ps => ps.flatMap fun
    | .agg qs => qs.flatMap flat1
    | d => flat1 d
  | d => flat1 d
def datCells (d : DataW Unit) : Array Value := (flat2 d).toArray

theorem gPow : Tryz.prog.globalNamed "internal/strconv.uint64pow10" = some 4 := by kernel_rfl
theorem gPowType : (Tryz.prog.globals[4]?).map (·.type) = some 141 := by kernel_rfl
theorem cellsU64 : Tryz.prog.cellsOf 74 = 1 := by kernel_rfl
theorem cellsP20 : Tryz.prog.cellsOf 141 = 20 := by kernel_rfl
theorem tabIs_of_vars {P : Program} {W : World} {name : String} {k : IntKind} {zs : List Int} {rest : List (String × DataW Unit)} {g : Nat} {t e : TypeId} {n : Nat}
    (hg : P.globalNamed name = some g) (hty : (P.globals[g]?).map (·.type) = some t) (ht : P.underlying t = some (.array n e)) (he : P.underlying e = some (.int k)) (hce : P.cellsOf e = 1) (hct : P.cellsOf t = n)
    (h : ∃ ps, DataW.LaidVars P W ((name, Lib.tabData k zs) :: rest) ps) : Lib.TabIs P W name k zs := by
  obtain ⟨ps, g', t', cs, fuel, p, q, hg', ht', hvar, hd, _, _⟩ := h
  obtain rfl := Option.some.inj (hg.symm.trans hg')
  obtain rfl := Option.some.inj (hty.symm.trans ht')
  unfold Lib.TabIs
  rw [hvar, ← Lib.cells_of_tab ht he hce hct hd]
theorem pow_data : (Rows.laid_internal_strconv_uint64pow10 : DataW Unit) = Lib.tabData .u64 Lib.pow10Tab := by
  unfold Rows.laid_internal_strconv_uint64pow10 Lib.tabData
  rfl
theorem pow_of_laid {W : World} {rest : List (String × DataW Unit)} (h : ∃ ps, DataW.LaidVars Tryz.prog W (("internal/strconv.uint64pow10", Rows.laid_internal_strconv_uint64pow10) :: rest) ps) : Pow W := by
  rw [pow_data] at h
  exact tabIs_of_vars gPow gPowType Tryz.underlying141 Tryz.underlying74 cellsU64 cellsP20 h
theorem pow_laid3 {W : World} (h : laidMetH Tryz.prog [("math/bits.deBruijn32tab", Rows.laid_math_bits_deBruijn32tab), ("math/bits.deBruijn64tab", Rows.laid_math_bits_deBruijn64tab), ("internal/strconv.uint64pow10", Rows.laid_internal_strconv_uint64pow10)] W) : Pow W := by
  have h1 : ∃ ps, DataW.LaidVars Tryz.prog W [("math/bits.deBruijn32tab", Rows.laid_math_bits_deBruijn32tab), ("math/bits.deBruijn64tab", Rows.laid_math_bits_deBruijn64tab), ("internal/strconv.uint64pow10", Rows.laid_internal_strconv_uint64pow10)] ps := laid_vars h
  exact pow_of_laid (laid_tail (laid_tail h1))
end Go.Proofs.YtbpndiegbfpigaaGreatDoor.PortW
