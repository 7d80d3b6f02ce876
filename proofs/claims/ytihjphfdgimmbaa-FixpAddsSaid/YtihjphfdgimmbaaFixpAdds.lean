/- FixpAdds: the walk, and the step from the law's arguments to it (printed by genlaws.py). -/
import Derived.Test.YtihjphfdgimmbaaFixpWakes
namespace Go.Proofs.Ytihjphfdgimmbaa.fixpAdds
open Go.ChangeShapes Go.WideShapes Go.ChangeAt Go.RowKit Go.Proofs.Ytihjphfdgimmbaa.Bas Go.Proofs.Ytihjphfdgimmbaa.FixpM Go.Proofs.Ytihjphfdgimmbaa.FixpW Go.Proofs.Ytihjphfdgimmbaa.FixpR

set_option maxHeartbeats 4000000 in
set_option maxRecDepth 100000 in
theorem walk (a b : Int) (w : World) (ha : I64 a) (hb : I64 b) :
    Calls Try.prog 5 #[.int .i64 a, .int .i64 b] w fun e w' => e = .returned (.bool true) ∧ Below w.heap.size w w' := by
  have C1 := fun W => add_calls a b W ha hb
  have C2 := fun W => radd_calls a b W
  have C3 := fun W => sub_calls a b W ha hb
  have C4 := fun W => rsub_calls a b W
  have C5 := fun W => mul_calls a b W ha hb
  have C6 := fun W => rmul_calls a b W ha hb
  have C7 := fun W => fits_calls a W ha
  have C8 := fun W => rfits_calls a W
  generalize addF a b = p at C1 C2
  generalize subF a b = q at C3 C4
  generalize mulF a b = r at C5 C6
  generalize fits a = f at C7 C8
  obtain ⟨p1, p2⟩ := p
  obtain ⟨q1, q2⟩ := q
  obtain ⟨r1, r2⟩ := r
  have D1 := Lib.hid C1
  have D2 := Lib.hid C2
  have D3 := Lib.hid C3
  have D4 := Lib.hid C4
  have D5 := Lib.hid C5
  have D6 := Lib.hid C6
  have D7 := Lib.hid C7
  have D8 := Lib.hid C8
  have D0 := Lib.hid (fun W => wakes_calls W)
  clear C1 C2 C3 C4 C5 C6 C7 C8 ha hb
  go_enter Try.func5, Try.ntmps5
  go_wp2_with (first | (go_at_call 9; refine (D0.out _).mono ?_; rintro e w' ⟨rfl, n, rfl⟩) | (go_at_call 12; refine (D1.out _).mono ?_; rintro e w' ⟨rfl, rfl⟩; clear D1) | (go_at_call 13; refine (D2.out _).mono ?_; rintro e w' ⟨rfl, rfl⟩; clear D2) | (go_at_call 16; refine (D3.out _).mono ?_; rintro e w' ⟨rfl, rfl⟩; clear D3) | (go_at_call 17; refine (D4.out _).mono ?_; rintro e w' ⟨rfl, rfl⟩; clear D4) | (go_at_call 18; refine (D5.out _).mono ?_; rintro e w' ⟨rfl, rfl⟩; clear D5) | (go_at_call 19; refine (D6.out _).mono ?_; rintro e w4 ⟨rfl, b4⟩; clear D6) | (go_at_call 14; refine (D7.out _).mono ?_; rintro e w' ⟨rfl, rfl⟩; clear D7) | (go_at_call 15; refine (D8.out _).mono ?_; rintro e w' ⟨rfl, rfl⟩; clear D8))
  go_ret
  exact ⟨rfl, (below_drewN (Below.refl _ _) n).trans b4⟩

theorem opened (H : Type) (enc : TypeId × Value → H) (W : World) (base : Nat) (args : Array Value) (ds : List (DataW H)) (p : List MemPlace)
    (hval : ∀ (j : Nat) t v, Try.f5.params[j]? = some t → args[j]? = some v → Value.okWide Try.prog W .any base t v)
    (hA : DataW.TrodAll enc Try.prog W 0 (fun _ => true) true Try.f5.params.toList args.toList ds p)
    (_hr : ∀ x ∈ DataW.weightsEach Try.prog Try.f5.params.toList ds, x ≤ reachBytes)
    (_hL : laidMetH Try.prog Rows.fixpAddsRow.laid W) :
    Calls Try.prog 5 args W fun e W' => e = .returned (.bool true) ∧ Below W.heap.size W W' := by
  rw [Try.params5] at hA hval
  obtain ⟨v0, vs0, d0, ds0, p0, q0, hargs, rfl, rfl, h0, r0⟩ := trodAll_cons hA
  obtain ⟨v1, vs1, d1, ds1, p1, q1, rfl, rfl, rfl, h1, r1⟩ := trodAll_cons r0
  obtain ⟨rfl, rfl, rfl⟩ := trodAll_nil r1
  obtain rfl : args = #[v0, v1] := by cases args; simp_all
  obtain ⟨a0, rfl, rfl, rfl, w0⟩ := open_int Try.underlying3 (hval 0 3 v0 rfl rfl) h0
  obtain ⟨a1, rfl, rfl, rfl, w1⟩ := open_int Try.underlying3 (hval 1 3 v1 rfl rfl) h1
  exact walk a0 a1 W (i64_wf w0) (i64_wf w1)
end Go.Proofs.Ytihjphfdgimmbaa.fixpAdds
