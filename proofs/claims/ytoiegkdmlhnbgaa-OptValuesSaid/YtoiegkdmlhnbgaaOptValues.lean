/- OptValues: the walk, and the step from the law's arguments to it. -/
import Derived.Test.YtoiegkdmlhnbgaaOptLawBase
namespace Go.Proofs.Ytoiegkdmlhnbgaa.optValues
open Go.ChangeShapes Go.WideShapes Go.ChangeAt Go.RowKit Go.Proofs.Ytoiegkdmlhnbgaa.Bas Go.Proofs.Ytoiegkdmlhnbgaa.FixpM Go.Proofs.Ytoiegkdmlhnbgaa.FixpW Go.Proofs.Ytoiegkdmlhnbgaa.OptW

set_option maxHeartbeats 2000000 in
theorem walk (s p v d : Int) (call : Bool) (w : World) (hd : I64 d) :
    Calls Try.prog 3 #[optV s p v d, .bool call] w fun e w' => e = .returned (.bool true) ∧ Below w.heap.size w w' := by
  unfold optV
  have C1 := fun W => value_calls call s p v d W hd
  have C2 := fun W => rvalue_calls call s p v d W hd
  generalize valueF call s p v d = r at C1 C2
  obtain ⟨r1, r2⟩ := r
  have D1 := Lib.hid C1
  have D2 := Lib.hid C2
  have D0 := Lib.hid (fun W => wakes_calls W)
  clear C1 C2 hd
  go_enter Try.func3, Try.ntmps3
  have x0 : Box (w.alloc (.cells #[.int .i64 s, .int .i64 p, .int .i64 v, .int .i64 d] 23)) w.heap.size 23 #[.int .i64 s, .int .i64 p, .int .i64 v, .int .i64 d] := Box.new _ _ _
  have hB0 : Below w.heap.size w (w.alloc (.cells #[.int .i64 s, .int .i64 p, .int .i64 v, .int .i64 d] 23)) := (Below.refl _ _).alloc (Nat.le_refl _) _
  go_upto_region 1 with fail
  generalize w.alloc (.cells #[.int .i64 s, .int .i64 p, .int .i64 v, .int .i64 d] 23) = w0 at x0 hB0 ⊢
  go_wp2_with (first | (go_at_call 7; refine (D0.out _).mono ?_; rintro e w1 ⟨rfl, b1⟩; have x1 := x0.keep b1; have e0 := x1.cell 0; have e1 := x1.cell 1; have e2 := x1.cell 2; have e3 := x1.cell 3; have hB1 := hB0.trans (b1.mono hB0.size); clear x0 b1 hB0) | (go_at_call 8; refine (D1.out _).mono ?_; rintro e w2 ⟨rfl, b2⟩; have x2 := x1.keep b2; clear e0 e1 e2 e3; have e0 := x2.cell 0; have e1 := x2.cell 1; have e2 := x2.cell 2; have e3 := x2.cell 3; have hB2 := hB1.trans (b2.mono hB1.size); clear x1 b2 hB1) | (go_at_call 9; refine (D2.out _).mono ?_; rintro e w3 ⟨rfl, b3⟩; have hB3 := hB2.trans (b3.mono hB2.size)))
  go_ret
  exact ⟨rfl, hB3⟩

theorem opened (H : Type) (enc : TypeId × Value → H) (W : World) (base : Nat) (args : Array Value) (ds : List (DataW H)) (p : List MemPlace)
    (hval : ∀ (j : Nat) t v, Try.f3.params[j]? = some t → args[j]? = some v → Value.okWide Try.prog W .any base t v)
    (hA : DataW.TrodAll enc Try.prog W 0 (fun _ => true) true Try.f3.params.toList args.toList ds p)
    (_hr : ∀ x ∈ DataW.weightsEach Try.prog Try.f3.params.toList ds, x ≤ reachBytes)
    (_hL : laidMetH Try.prog Rows.optValuesRow.laid W) :
    Calls Try.prog 3 args W fun e W' => e = .returned (.bool true) ∧ Below W.heap.size W W' := by
  rw [Try.params3] at hA hval
  obtain ⟨v0, vs0, d0, ds0, p0, q0, hargs, rfl, rfl, h0, r0⟩ := trodAll_cons hA
  obtain ⟨v1, vs1, d1, ds1, p1, q1, rfl, rfl, rfl, h1, r1⟩ := trodAll_cons r0
  obtain ⟨rfl, rfl, rfl⟩ := trodAll_nil r1
  obtain rfl : args = #[v0, v1] := by cases args; simp_all
  obtain ⟨s, p, v, d, rfl, _, _, _, hd⟩ := open_opt (hval 0 23 v0 rfl rfl) h0
  obtain ⟨call, rfl, _, _⟩ := open_bool Try.underlying4 (hval 1 4 v1 rfl rfl) h1
  exact walk s p v d call W hd
end Go.Proofs.Ytoiegkdmlhnbgaa.optValues
