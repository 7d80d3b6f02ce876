/- An option as a law's argument. -/
import Derived.Test.YtoiegkdmlhnbgaaOptRef
import Derived.Test.YtoiegkdmlhnbgaaBaseAgg
namespace Go.Proofs.Ytoiegkdmlhnbgaa.OptW
open Go.ChangeShapes Go.WideShapes Go.ChangeAt Go.RowKit Go.Proofs.Ytoiegkdmlhnbgaa.Bas Go.Proofs.Ytoiegkdmlhnbgaa.FixpM Go.Proofs.Ytoiegkdmlhnbgaa.FixpW Go.Proofs.Ytoiegkdmlhnbgaa.FixpR

theorem i64_wf {x : Int} (h : (Lit.int .i64 x).wf = true) : I64 x := by
  simpa [Lit.wf, IntKind.min, IntKind.max, IntKind.signed, IntKind.bits, I64] using h
theorem cells64 : Try.prog.cellsOf 3 = 1 := by kernel_rfl
theorem cellsOf_opt : Try.prog.cellsOf 23 = 4 := by kernel_rfl
def optV (s p v d : Int) : Value := .agg #[.int .i64 s, .int .i64 p, .int .i64 v, .int .i64 d]
theorem open_opt {H : Type} {enc : TypeId × Value → H} {W : World} {base : Nat} {v : Value} {d : DataW H} {p : List MemPlace}
    (hv : Value.okWide Try.prog W .any base 23 v) (h : DataW.Trod enc Try.prog W 0 (fun _ => true) true 23 v d p) :
    ∃ s p v' d', v = optV s p v' d' ∧ I64 s ∧ I64 p ∧ I64 v' ∧ I64 d' := by
  obtain ⟨L, rfl, hL, hi, _⟩ := open_agg Try.underlying23 hv h
  rw [cellsOf_opt] at hL
  match L, hL with
  | [a, b, c, e], _ =>
    obtain ⟨z0, h0, w0⟩ := hi 0 _ .i64 rfl cells64 Try.underlying3
    obtain ⟨z1, h1, w1⟩ := hi 1 _ .i64 rfl cells64 Try.underlying3
    obtain ⟨z2, h2, w2⟩ := hi 2 _ .i64 rfl cells64 Try.underlying3
    obtain ⟨z3, h3, w3⟩ := hi 3 _ .i64 rfl cells64 Try.underlying3
    simp at h0 h1 h2 h3
    subst h0 h1 h2 h3
    exact ⟨z0, z1, z2, z3, rfl, i64_wf w0, i64_wf w1, i64_wf w2, i64_wf w3⟩
end Go.Proofs.Ytoiegkdmlhnbgaa.OptW
