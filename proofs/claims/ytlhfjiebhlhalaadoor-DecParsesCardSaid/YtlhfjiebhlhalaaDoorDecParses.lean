/- DecParses: the walk, and the step from the law's arguments to it. -/
import Derived.Test.YtlhfjiebhlhalaaDoorDecLawBase
namespace Go.Proofs.YtlhfjiebhlhalaaDoor.decParses
open Go.ChangeShapes Go.WideShapes Go.ChangeAt Go.RowKit Go.Proofs.YtlhfjiebhlhalaaDoor.Bas Go.Proofs.YtlhfjiebhlhalaaDoor.DecM Go.Proofs.YtlhfjiebhlhalaaDoor.FixpM Go.Proofs.YtlhfjiebhlhalaaDoor.FixpW Go.Proofs.YtlhfjiebhlhalaaDoor.DecW

set_option maxHeartbeats 400000 in
theorem walk (s : ByteArray) (p : Int) (w : World) (hs : s.size ≤ 140737488351232) (hp : I64 p) (ht : Pow w) :
    Calls Tryd.prog 4 #[.string s, .int .i64 p] w fun e w' => e = .returned (.bool true) ∧ Below w.heap.size w w' := by
  have C0 := Lib.hid (wakes_calls w ht)
  have c1 := fun W => parse_calls s.data.toList p W (Nat.le_trans hs (by decide)) hp
  rw [← ba_of s] at c1
  have c2 := fun W => rparse_calls s p W (Nat.le_trans hs (by decide)) hp
  unfold ParV at c1 c2
  generalize ParR s.data.toList p = v at c1 c2
  obtain ⟨l, c⟩ := v
  have C1 := Lib.hid c1
  have C2 := Lib.hid c2
  clear c1 c2 hp ht
  go_enter Tryd.func4, Tryd.ntmps4
  go_wp2_with (first
    | (go_at_call 7; refine C0.out.mono ?_; rintro e w1 ⟨rfl, b1⟩)
    | (go_at_call 10; refine (C1.out _).mono ?_; rintro e w2 ⟨rfl, b2⟩; have B2 := b1.trans (b2.mono b1.size))
    | (go_at_call 11; refine (C2.out _).mono ?_; rintro e w3 ⟨rfl, rfl⟩))
  go_ret
  exact ⟨ret_bool (by simp), B2⟩

set_option maxRecDepth 100000 in
theorem opened (H : Type) (enc : TypeId × Value → H) (W : World) (base : Nat) (args : Array Value) (ds : List (DataW H)) (p : List MemPlace)
    (hval : ∀ (j : Nat) t v, Tryd.f4.params[j]? = some t → args[j]? = some v → Value.okWide Tryd.prog W .any base t v)
    (hA : DataW.TrodAll enc Tryd.prog W 0 (fun _ => true) true Tryd.f4.params.toList args.toList ds p)
    (hr : ∀ x ∈ DataW.weightsEach Tryd.prog Tryd.f4.params.toList ds, x ≤ reachBytes)
    (hL : laidMetH Tryd.prog Rows.decParsesRow.laid W) :
    Calls Tryd.prog 4 args W fun e W' => e = .returned (.bool true) ∧ Below W.heap.size W W' := by
  rw [Tryd.params4] at hA hval hr
  have _ := hL
  obtain ⟨v0, vs0, d0, ds0, p0, q0, hargs, rfl, rfl, h0, r0⟩ := trodAll_cons hA
  obtain ⟨v1, vs1, d1, ds1, p1, q1, rfl, rfl, rfl, h1, r1⟩ := trodAll_cons r0
  obtain ⟨rfl, rfl, rfl⟩ := trodAll_nil r1
  obtain rfl : args = #[v0, v1] := by cases args; simp_all
  obtain ⟨s, rfl, rfl, rfl, ws⟩ := Go.ChangeMaps.open_string Tryd.underlying9 (hval 0 9 v0 rfl rfl) h0
  obtain ⟨p, rfl, rfl, rfl, wp⟩ := open_int Tryd.underlying3 (hval 1 3 v1 rfl rfl) h1
  have hsz := str_reach (P := Tryd.prog) (H := H) (t := 9) (l := s.data.toList) (fun x hx => hr x (by simp [DataW.weightsEach, hx]))
  exact walk s p W hsz (i64_wf wp) (pow_laid hL)
end Go.Proofs.YtlhfjiebhlhalaaDoor.decParses
