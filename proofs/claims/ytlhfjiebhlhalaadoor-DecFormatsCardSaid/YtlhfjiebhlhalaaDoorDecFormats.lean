/- DecFormats: the walk, and the step from the law's arguments to it. -/
import Derived.Test.YtlhfjiebhlhalaaDoorDecLawBase
namespace Go.Proofs.YtlhfjiebhlhalaaDoor.decFormats
open Go.ChangeShapes Go.WideShapes Go.ChangeAt Go.RowKit Go.Proofs.YtlhfjiebhlhalaaDoor.Bas Go.Proofs.YtlhfjiebhlhalaaDoor.DecM Go.Proofs.YtlhfjiebhlhalaaDoor.FixpM Go.Proofs.YtlhfjiebhlhalaaDoor.FixpW Go.Proofs.YtlhfjiebhlhalaaDoor.DecW

set_option maxHeartbeats 400000 in
theorem walk (x p : Int) (w : World) (hx : I64 x) (hp : I64 p) (ht : Pow w) :
    Calls Tryd.prog 3 #[.int .i64 x, .int .i64 p] w fun e w' => e = .returned (.bool true) ∧ Below w.heap.size w w' := by
  have C0 := Lib.hid (wakes_calls w ht)
  have HT := Lib.hid ht
  have c1 := fun W h => format_calls x p W hx hp h
  have c2 := fun W => rformat_calls x p W hx hp
  unfold FmtV at c1 c2
  generalize FmtR x p = v at c1 c2
  obtain ⟨l, c⟩ := v
  have C1 := Lib.hid c1
  have C2 := Lib.hid c2
  clear c1 c2 hx hp ht
  go_enter Tryd.func3, Tryd.ntmps3
  go_wp2_with (first
    | (go_at_call 7; refine C0.out.mono ?_; rintro e w1 ⟨rfl, b1⟩)
    | (go_at_call 8; refine (C1.out _ (HT.out.keep b1)).mono ?_; rintro e w2 ⟨rfl, b2⟩; have B2 := b1.trans (b2.mono b1.size))
    | (go_at_call 9; refine (C2.out _).mono ?_; rintro e w3 ⟨rfl, b3⟩; have B3 := B2.trans (b3.mono B2.size)))
  go_ret
  exact ⟨ret_bool (by simp), B3⟩

set_option maxRecDepth 100000 in
theorem opened (H : Type) (enc : TypeId × Value → H) (W : World) (base : Nat) (args : Array Value) (ds : List (DataW H)) (p : List MemPlace)
    (hval : ∀ (j : Nat) t v, Tryd.f3.params[j]? = some t → args[j]? = some v → Value.okWide Tryd.prog W .any base t v)
    (hA : DataW.TrodAll enc Tryd.prog W 0 (fun _ => true) true Tryd.f3.params.toList args.toList ds p)
    (hr : ∀ x ∈ DataW.weightsEach Tryd.prog Tryd.f3.params.toList ds, x ≤ reachBytes)
    (hL : laidMetH Tryd.prog Rows.decFormatsRow.laid W) :
    Calls Tryd.prog 3 args W fun e W' => e = .returned (.bool true) ∧ Below W.heap.size W W' := by
  rw [Tryd.params3] at hA hval hr
  have _ := hL
  obtain ⟨v0, vs0, d0, ds0, p0, q0, hargs, rfl, rfl, h0, r0⟩ := trodAll_cons hA
  obtain ⟨v1, vs1, d1, ds1, p1, q1, rfl, rfl, rfl, h1, r1⟩ := trodAll_cons r0
  obtain ⟨rfl, rfl, rfl⟩ := trodAll_nil r1
  obtain rfl : args = #[v0, v1] := by cases args; simp_all
  obtain ⟨x, rfl, rfl, rfl, wx⟩ := open_int Tryd.underlying3 (hval 0 3 v0 rfl rfl) h0
  obtain ⟨p, rfl, rfl, rfl, wp⟩ := open_int Tryd.underlying3 (hval 1 3 v1 rfl rfl) h1
  exact walk x p W (i64_wf wx) (i64_wf wp) (pow_laid hL)
end Go.Proofs.YtlhfjiebhlhalaaDoor.decFormats
