/- RefWorths: the walk, and the step from the law's arguments to it. -/
import Derived.Test.YtghcbkkabhlchaaDoorRefLawBase
namespace Go.Proofs.YtghcbkkabhlchaaDoor.refWorths
open Go.ChangeShapes Go.WideShapes Go.ChangeAt Go.RowKit Go.Proofs.YtghcbkkabhlchaaDoor.Bas Go.Proofs.YtghcbkkabhlchaaDoor.FixpM Go.Proofs.YtghcbkkabhlchaaDoor.FixpW Go.Proofs.YtghcbkkabhlchaaDoor.RefW

set_option maxHeartbeats 1000000 in
theorem walk (r h a m : Int) (w : World) (hr : I64 r) (ha : I64 a) :
    Calls Tryd.prog 3 #[curV r h, .int .i64 a, .int .i64 m] w fun e w' => e = .returned (.bool true) ∧ Below w.heap.size w w' := by
  have C1 := fun W => base_calls r h a m W ha hr
  have C2 := fun W => rbase_calls r h a m W ha hr
  have C3 := fun W => worth_calls r h a W ha hr
  have C4 := fun W => rworth_calls r h a W ha hr
  generalize baseF r h a m = p at C1 C2
  generalize worthF r h a = q at C3 C4
  obtain ⟨p1, p2⟩ := p
  obtain ⟨q1, q2⟩ := q
  unfold curV at *
  have D0 := Lib.hid (fun W => wakes_calls W)
  have D1 := Lib.hid C1
  have D2 := Lib.hid C2
  have D3 := Lib.hid C3
  have D4 := Lib.hid C4
  clear C1 C2 C3 C4
  have hB : Below w.heap.size w (w.alloc (.cells #[.int .i64 r, .int .i64 h] 23)) := (Below.refl _ _).alloc (Nat.le_refl _) _
  have x0 := Box.new w 23 #[.int .i64 r, .int .i64 h]
  go_enter Tryd.func3, Tryd.ntmps3
  go_upto_region 1 with fail
  generalize w.alloc (.cells #[.int .i64 r, .int .i64 h] 23) = w0 at hB x0 ⊢
  go_wp2_with (first
    | (go_at_call 7; refine (D0.out _).mono ?_; rintro e w1 ⟨rfl, b1⟩; have x1 := x0.keep b1; have hB1 := hB.trans (b1.mono hB.size); clear x0 hB b1; have e0 := x1.cell 0; have e1 := x1.cell 1)
    | (go_at_call 8; refine (D1.out _).mono ?_; rintro e w2 ⟨rfl, b2⟩; have x2 := x1.keep b2; have hB2 := hB1.trans (b2.mono hB1.size); clear x1 hB1 b2 e0 e1; have e0 := x2.cell 0; have e1 := x2.cell 1)
    | (go_at_call 9; refine (D2.out _).mono ?_; rintro e w3 ⟨rfl, b3⟩; have x3 := x2.keep b3; have hB3 := hB2.trans (b3.mono hB2.size); clear x2 hB2 b3 e0 e1; have e0 := x3.cell 0; have e1 := x3.cell 1)
    | (go_at_call 10; refine (D3.out _).mono ?_; rintro e w4 ⟨rfl, b4⟩; have x4 := x3.keep b4; have hB4 := hB3.trans (b4.mono hB3.size); clear x3 hB3 b4 e0 e1; have e0 := x4.cell 0; have e1 := x4.cell 1)
    | (go_at_call 11; refine (D4.out _).mono ?_; rintro e w5 ⟨rfl, b5⟩; have hB5 := hB4.trans (b5.mono hB4.size); clear x4 hB4 b5 e0 e1))
  go_ret
  exact ⟨rfl, hB5⟩

theorem opened (H : Type) (enc : TypeId × Value → H) (W : World) (base : Nat) (args : Array Value) (ds : List (DataW H)) (p : List MemPlace)
    (hval : ∀ (j : Nat) t v, Tryd.f3.params[j]? = some t → args[j]? = some v → Value.okWide Tryd.prog W .any base t v)
    (hA : DataW.TrodAll enc Tryd.prog W 0 (fun _ => true) true Tryd.f3.params.toList args.toList ds p)
    (hr : ∀ x ∈ DataW.weightsEach Tryd.prog Tryd.f3.params.toList ds, x ≤ reachBytes)
    (hL : laidMetH Tryd.prog Rows.refWorthsRow.laid W) :
    Calls Tryd.prog 3 args W fun e W' => e = .returned (.bool true) ∧ Below W.heap.size W W' := by
  rw [Tryd.params3] at hA hval hr
  have _ := hL
  obtain ⟨v0, vs0, d0, ds0, p0, q0, hargs, rfl, rfl, h0, r0⟩ := trodAll_cons hA
  obtain ⟨v1, vs1, d1, ds1, p1, q1, rfl, rfl, rfl, h1, r1⟩ := trodAll_cons r0
  obtain ⟨v2, vs2, d2, ds2, p2, q2, rfl, rfl, rfl, h2, r2⟩ := trodAll_cons r1
  obtain ⟨rfl, rfl, rfl⟩ := trodAll_nil r2
  obtain rfl : args = #[v0, v1, v2] := by cases args; simp_all
  obtain ⟨r, h, rfl, ir, _⟩ := open_cur (hval 0 23 v0 rfl rfl) h0
  obtain ⟨a, rfl, rfl, rfl, wa⟩ := open_int Tryd.underlying3 (hval 1 3 v1 rfl rfl) h1
  obtain ⟨m, rfl, rfl, rfl, _⟩ := open_int Tryd.underlying3 (hval 2 3 v2 rfl rfl) h2
  exact walk r h a m W ir (i64_wf wa)
end Go.Proofs.YtghcbkkabhlchaaDoor.refWorths
