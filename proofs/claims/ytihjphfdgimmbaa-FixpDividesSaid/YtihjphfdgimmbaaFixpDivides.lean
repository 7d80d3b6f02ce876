/- FixpDivides: the walk, and the step from the law's arguments to it. -/
import Derived.Test.YtihjphfdgimmbaaFixpWakes
namespace Go.Proofs.Ytihjphfdgimmbaa.fixpDivides
open Go.ChangeShapes Go.WideShapes Go.ChangeAt Go.RowKit Go.Proofs.Ytihjphfdgimmbaa.Bas Go.Proofs.Ytihjphfdgimmbaa.FixpM Go.Proofs.Ytihjphfdgimmbaa.FixpW Go.Proofs.Ytihjphfdgimmbaa.FixpR

set_option maxHeartbeats 2000000 in
theorem walk (a b c m : Int) (w : World) (ha : I64 a) (hb : I64 b) (hc : I64 c) :
    Calls Try.prog 3 #[.int .i64 a, .int .i64 b, .agg #[.int .i64 c, .int .i64 m]] w fun e w' => e = .returned (.bool true) ∧ Below w.heap.size w w' := by
  have C1 := fun W => muldiv_calls a b c m W ha hb hc
  have C2 := fun W => rmuldiv_calls a b c m W ha hb hc
  generalize mulDivF a b c m = p at C1 C2
  obtain ⟨p1, p2⟩ := p
  have D1 := Lib.hid C1
  have D2 := Lib.hid C2
  have D0 := Lib.hid (fun W => wakes_calls W)
  clear C1 C2 ha hb hc
  go_enter Try.func3, Try.ntmps3
  go_wp2_with (first | (go_at_call 9; refine (D0.out _).mono ?_; rintro e w' ⟨rfl, n, rfl⟩) | (go_at_call 10; refine (D1.out _).mono ?_; rintro e w' ⟨rfl, n2, rfl⟩) | (go_at_call 11; refine (D2.out _).mono ?_; rintro e w4 ⟨rfl, b4⟩))
  go_ret
  have hb := below_drewN ((Below.refl w.heap.size w).alloc (Nat.le_refl _) (.cells #[.int .i64 c, .int .i64 m] 22)) (n + n2)
  exact ⟨rfl, hb.trans (b4.mono hb.size)⟩

theorem opened (H : Type) (enc : TypeId × Value → H) (W : World) (base : Nat) (args : Array Value) (ds : List (DataW H)) (p : List MemPlace)
    (hval : ∀ (j : Nat) t v, Try.f3.params[j]? = some t → args[j]? = some v → Value.okWide Try.prog W .any base t v)
    (hA : DataW.TrodAll enc Try.prog W 0 (fun _ => true) true Try.f3.params.toList args.toList ds p)
    (_hr : ∀ x ∈ DataW.weightsEach Try.prog Try.f3.params.toList ds, x ≤ reachBytes)
    (_hL : laidMetH Try.prog Rows.fixpDividesRow.laid W) :
    Calls Try.prog 3 args W fun e W' => e = .returned (.bool true) ∧ Below W.heap.size W W' := by
  rw [Try.params3] at hA hval
  obtain ⟨v0, vs0, d0, ds0, p0, q0, hargs, rfl, rfl, h0, r0⟩ := trodAll_cons hA
  obtain ⟨v1, vs1, d1, ds1, p1, q1, rfl, rfl, rfl, h1, r1⟩ := trodAll_cons r0
  obtain ⟨v2, vs2, d2, ds2, p2, q2, rfl, rfl, rfl, h2, r2⟩ := trodAll_cons r1
  obtain ⟨rfl, rfl, rfl⟩ := trodAll_nil r2
  obtain rfl : args = #[v0, v1, v2] := by cases args; simp_all
  obtain ⟨a, rfl, rfl, rfl, wa⟩ := open_int Try.underlying3 (hval 0 3 v0 rfl rfl) h0
  obtain ⟨b, rfl, rfl, rfl, wb⟩ := open_int Try.underlying3 (hval 1 3 v1 rfl rfl) h1
  obtain ⟨zs, rfl, hz, hw⟩ := open_arr_int Try.underlying22 Try.underlying3 cells64 (by kernel_rfl) (hval 2 22 v2 rfl rfl) h2
  match zs, hz, hw with
  | [c, m], _, hw => exact walk a b c m W (i64_wf wa) (i64_wf wb) (i64_wf (hw c (by simp)))
end Go.Proofs.Ytihjphfdgimmbaa.fixpDivides
