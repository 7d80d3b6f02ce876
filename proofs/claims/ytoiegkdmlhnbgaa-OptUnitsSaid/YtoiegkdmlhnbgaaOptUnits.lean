/- OptUnits: the walk, and the step from the law's arguments to it. -/
import Derived.Test.YtoiegkdmlhnbgaaOptLawBase
import Derived.Test.YtoiegkdmlhnbgaaOptUnit
namespace Go.Proofs.Ytoiegkdmlhnbgaa.optUnits
open Go.ChangeShapes Go.WideShapes Go.ChangeAt Go.RowKit Go.Proofs.Ytoiegkdmlhnbgaa.Bas Go.Proofs.Ytoiegkdmlhnbgaa.FixpM Go.Proofs.Ytoiegkdmlhnbgaa.FixpW Go.Proofs.Ytoiegkdmlhnbgaa.OptW

theorem cellsB : Try.prog.cellsOf 4 = 1 := by kernel_rfl
theorem cellsOf_instr : Try.prog.cellsOf 32 = 7 := by kernel_rfl
theorem open_instr {H : Type} {enc : TypeId × Value → H} {W : World} {base : Nat} {v : Value} {d : DataW H} {p : List MemPlace}
    (hv : Value.okWide Try.prog W .any base 32 v) (h : DataW.Trod enc Try.prog W 0 (fun _ => true) true 32 v d p) :
    ∃ k u m s x c r, v = instrV k u m s x c r ∧ (∀ z ∈ [k, u, m, s, x, r], I64 z) := by
  obtain ⟨L, rfl, hL, hi, hb⟩ := open_agg Try.underlying32 hv h
  rw [cellsOf_instr] at hL
  match L, hL with
  | [a0, a1, a2, a3, a4, a5, a6], _ =>
    obtain ⟨z0, h0, w0⟩ := hi 0 _ .i64 rfl cells64 Try.underlying3
    obtain ⟨z1, h1, w1⟩ := hi 1 _ .i64 rfl cells64 Try.underlying3
    obtain ⟨z2, h2, w2⟩ := hi 2 _ .i64 rfl cells64 Try.underlying3
    obtain ⟨z3, h3, w3⟩ := hi 3 _ .i64 rfl cells64 Try.underlying3
    obtain ⟨z4, h4, w4⟩ := hi 4 _ .i64 rfl cells64 Try.underlying3
    obtain ⟨z5, h5⟩ := hb 5 _ rfl cellsB Try.underlying4
    obtain ⟨z6, h6, w6⟩ := hi 6 _ .i64 rfl cells64 Try.underlying3
    simp at h0 h1 h2 h3 h4 h5 h6
    subst h0 h1 h2 h3 h4 h5 h6
    refine ⟨z0, z1, z2, z3, z4, z5, z6, rfl, ?_⟩
    intro z hz
    simp only [List.mem_cons, List.not_mem_nil, or_false] at hz
    rcases hz with rfl | rfl | rfl | rfl | rfl | rfl
    · exact i64_wf w0
    · exact i64_wf w1
    · exact i64_wf w2
    · exact i64_wf w3
    · exact i64_wf w4
    · exact i64_wf w6

set_option maxHeartbeats 2000000 in
theorem walk (k u m s x : Int) (c : Bool) (r p v d : Int) (w : World) :
    Calls Try.prog 6 #[instrV k u m s x c r, .agg #[.int .i64 p, .int .i64 v], .int .i64 d] w fun e w' => e = .returned (.bool true) ∧ Below w.heap.size w w' := by
  have C1 := fun W => unit_calls k u m s x c r p v d W
  have C2 := fun W => runit_calls k u m s x c r p v d W
  generalize unitF k s x c p v d = q at C1 C2
  obtain ⟨r1, r2⟩ := q
  unfold instrV at *
  have D1 := Lib.hid C1
  have D2 := Lib.hid C2
  have D0 := Lib.hid (fun W => wakes_calls W)
  clear C1 C2
  go_enter Try.func6, Try.ntmps6
  have y0 : Box ((w.alloc (.cells #[.int .i64 k, .int .i64 u, .int .i64 m, .int .i64 s, .int .i64 x, .bool c, .int .i64 r] 32)).alloc (.cells #[.int .i64 p, .int .i64 v] 33)) w.heap.size 32 #[.int .i64 k, .int .i64 u, .int .i64 m, .int .i64 s, .int .i64 x, .bool c, .int .i64 r] := (Box.new w _ _).alloc _
  have x0 : Box ((w.alloc (.cells #[.int .i64 k, .int .i64 u, .int .i64 m, .int .i64 s, .int .i64 x, .bool c, .int .i64 r] 32)).alloc (.cells #[.int .i64 p, .int .i64 v] 33)) (w.heap.size + 1) 33 #[.int .i64 p, .int .i64 v] := by
    have := Box.new (w.alloc (.cells #[.int .i64 k, .int .i64 u, .int .i64 m, .int .i64 s, .int .i64 x, .bool c, .int .i64 r] 32)) 33 #[.int .i64 p, .int .i64 v]
    simpa using this
  have hB0 : Below w.heap.size w ((w.alloc (.cells #[.int .i64 k, .int .i64 u, .int .i64 m, .int .i64 s, .int .i64 x, .bool c, .int .i64 r] 32)).alloc (.cells #[.int .i64 p, .int .i64 v] 33)) := ((Below.refl _ _).alloc (Nat.le_refl _) _).alloc (by simp) _
  go_upto_region 1 with fail
  generalize ((w.alloc (.cells #[.int .i64 k, .int .i64 u, .int .i64 m, .int .i64 s, .int .i64 x, .bool c, .int .i64 r] 32)).alloc (.cells #[.int .i64 p, .int .i64 v] 33)) = w0 at x0 y0 hB0 ⊢
  go_wp2_with (first | (go_at_call 7; refine (D0.out _).mono ?_; rintro e w1 ⟨rfl, b1⟩; have x1 := x0.keep b1; have y1 := y0.keep b1; have e0 := x1.cell 0; have e1 := x1.cell 1; have f0 := y1.cell 0; have f1 := y1.cell 1; have f2 := y1.cell 2; have f3 := y1.cell 3; have f4 := y1.cell 4; have f5 := y1.cell 5; have f6 := y1.cell 6; have hB1 := hB0.trans (b1.mono hB0.size); clear x0 y0 b1 hB0) | (go_at_call 10; refine (D1.out _).mono ?_; rintro e w2 ⟨rfl, b2⟩; have x2 := x1.keep b2; have y2 := y1.keep b2; clear e0 e1 f0 f1 f2 f3 f4 f5 f6; have e0 := x2.cell 0; have e1 := x2.cell 1; have f0 := y2.cell 0; have f1 := y2.cell 1; have f2 := y2.cell 2; have f3 := y2.cell 3; have f4 := y2.cell 4; have f5 := y2.cell 5; have f6 := y2.cell 6; have hB2 := hB1.trans (b2.mono hB1.size); clear x1 y1 b2 hB1) | (go_at_call 11; refine (D2.out _).mono ?_; rintro e w3 ⟨rfl, b3⟩; have hB3 := hB2.trans (b3.mono hB2.size)))
  go_ret
  exact ⟨rfl, hB3⟩

theorem opened (H : Type) (enc : TypeId × Value → H) (W : World) (base : Nat) (args : Array Value) (ds : List (DataW H)) (p : List MemPlace)
    (hval : ∀ (j : Nat) t v, Try.f6.params[j]? = some t → args[j]? = some v → Value.okWide Try.prog W .any base t v)
    (hA : DataW.TrodAll enc Try.prog W 0 (fun _ => true) true Try.f6.params.toList args.toList ds p)
    (_hr : ∀ x ∈ DataW.weightsEach Try.prog Try.f6.params.toList ds, x ≤ reachBytes)
    (_hL : laidMetH Try.prog Rows.optUnitsRow.laid W) :
    Calls Try.prog 6 args W fun e W' => e = .returned (.bool true) ∧ Below W.heap.size W W' := by
  rw [Try.params6] at hA hval
  obtain ⟨v0, vs0, d0, ds0, p0, q0, hargs, rfl, rfl, h0, r0⟩ := trodAll_cons hA
  obtain ⟨v1, vs1, d1, ds1, p1, q1, rfl, rfl, rfl, h1, r1⟩ := trodAll_cons r0
  obtain ⟨v2, vs2, d2, ds2, p2, q2, rfl, rfl, rfl, h2, r2⟩ := trodAll_cons r1
  obtain ⟨rfl, rfl, rfl⟩ := trodAll_nil r2
  obtain rfl : args = #[v0, v1, v2] := by cases args; simp_all
  obtain ⟨k, u, m, s, x, c, r, rfl, _⟩ := open_instr (hval 0 32 v0 rfl rfl) h0
  obtain ⟨zs, rfl, hz, _⟩ := open_arr_int Try.underlying33 Try.underlying3 cells64 (by kernel_rfl) (hval 1 33 v1 rfl rfl) h1
  obtain ⟨d, rfl, rfl, rfl, _⟩ := open_int Try.underlying3 (hval 2 3 v2 rfl rfl) h2
  match zs, hz with
  | [p, v], _ => exact walk k u m s x c r p v d W
end Go.Proofs.Ytoiegkdmlhnbgaa.optUnits
