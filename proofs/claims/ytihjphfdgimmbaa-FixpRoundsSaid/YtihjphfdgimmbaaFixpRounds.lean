/- FixpRounds: the walk, and the step from the law's arguments to it (printed by genlaws.py). -/
import Derived.Test.YtihjphfdgimmbaaFixpWakes
import Derived.Test.YtihjphfdgimmbaaFixpLaws
namespace Go.Proofs.Ytihjphfdgimmbaa.fixpRounds
open Go.ChangeShapes Go.WideShapes Go.ChangeAt Go.RowKit Go.Proofs.Ytihjphfdgimmbaa.Bas Go.Proofs.Ytihjphfdgimmbaa.FixpM Go.Proofs.Ytihjphfdgimmbaa.FixpW Go.Proofs.Ytihjphfdgimmbaa.FixpR

set_option maxHeartbeats 4000000 in
set_option maxRecDepth 100000 in
theorem walk (a b c : Int) (w : World) (ha : I64 a) (hb : I64 b) (hc : I64 c) :
    Calls Try.prog 4 #[.int .i64 a, .int .i64 b, .int .i64 c] w fun e w' => e = .returned (.bool true) ∧ Below w.heap.size w w' := by
  have C1 := fun W => muldiv_calls a b c 0 W ha hb hc
  have C2 := fun W => muldiv_calls a b c 1 W ha hb hc
  have C3 := fun W => muldiv_calls a b c 2 W ha hb hc
  have C4 := fun W => muldiv_calls a b c 3 W ha hb hc
  have R := fun d u z aw eg => rounds a b c d u z aw eg
  generalize mulDivF a b c 0 = p at C1 R
  generalize mulDivF a b c 1 = q at C2 R
  generalize mulDivF a b c 2 = r at C3 R
  generalize mulDivF a b c 3 = s at C4 R
  obtain ⟨p1, p2⟩ := p
  obtain ⟨q1, q2⟩ := q
  obtain ⟨r1, r2⟩ := r
  obtain ⟨s1, s2⟩ := s
  have D1 := Lib.hid C1
  have D2 := Lib.hid C2
  have D3 := Lib.hid C3
  have D4 := Lib.hid C4
  have D0 := Lib.hid (fun W => wakes_calls W)
  have hR := Lib.hid R
  clear C1 C2 C3 C4 ha hb hc R
  by_cases hp : p2 = 0
  · subst hp
    by_cases hq : q2 = 0
    · subst hq
      by_cases hs : s2 = 0
      · subst hs
        obtain ⟨rfl, x1, x2, fd, fu, k1, k2⟩ := hR.out p1 q1 r1 s1 r2 rfl rfl rfl rfl
        rw [fits_iff] at fd fu
        have E1 : IntKind.i64.wrap (q1 - p1) = q1 - p1 := by rw [IntKind.wrap_i64]; omega
        have hn1 : ¬ (1 : Int) < q1 - p1 := by omega
        have hn2 : ¬ q1 < p1 := by omega
        clear hR fd fu x1 x2
        by_cases hu : 0 < q1
        · obtain ⟨rfl, rfl⟩ := k1 hu
          clear k1 k2
          go_enter Try.func4, Try.ntmps4
          go_wp2_with (first | (go_at_call 9; refine (D0.out _).mono ?_; rintro e w' ⟨rfl, n, rfl⟩) | (go_at_call 10; refine (D1.out _).mono ?_; rintro e w' ⟨rfl, n1, rfl⟩; clear D1) | (go_at_call 10; refine (D2.out _).mono ?_; rintro e w' ⟨rfl, n2, rfl⟩; clear D2) | (go_at_call 10; refine (D3.out _).mono ?_; rintro e w' ⟨rfl, n3, rfl⟩; clear D3) | (go_at_call 10; refine (D4.out _).mono ?_; rintro e w' ⟨rfl, n4, rfl⟩; clear D4))
          go_ret
          exact ⟨rfl, below_drewN (Below.refl _ _) _⟩
        · obtain ⟨rfl, rfl⟩ := k2 hu
          clear k1 k2
          go_enter Try.func4, Try.ntmps4
          go_wp2_with (first | (go_at_call 9; refine (D0.out _).mono ?_; rintro e w' ⟨rfl, n, rfl⟩) | (go_at_call 10; refine (D1.out _).mono ?_; rintro e w' ⟨rfl, n1, rfl⟩; clear D1) | (go_at_call 10; refine (D2.out _).mono ?_; rintro e w' ⟨rfl, n2, rfl⟩; clear D2) | (go_at_call 10; refine (D3.out _).mono ?_; rintro e w' ⟨rfl, n3, rfl⟩; clear D3) | (go_at_call 10; refine (D4.out _).mono ?_; rintro e w' ⟨rfl, n4, rfl⟩; clear D4))
          go_ret
          exact ⟨rfl, below_drewN (Below.refl _ _) _⟩
      · have hsb : (s2 != 0) = true := by simpa using hs
        clear hR hs
        go_enter Try.func4, Try.ntmps4
        go_wp2_with (first | (go_at_call 9; refine (D0.out _).mono ?_; rintro e w' ⟨rfl, n, rfl⟩) | (go_at_call 10; refine (D1.out _).mono ?_; rintro e w' ⟨rfl, n1, rfl⟩; clear D1) | (go_at_call 10; refine (D2.out _).mono ?_; rintro e w' ⟨rfl, n2, rfl⟩; clear D2) | (go_at_call 10; refine (D3.out _).mono ?_; rintro e w' ⟨rfl, n3, rfl⟩; clear D3) | (go_at_call 10; refine (D4.out _).mono ?_; rintro e w' ⟨rfl, n4, rfl⟩; clear D4))
        go_ret
        exact ⟨rfl, below_drewN (Below.refl _ _) _⟩
    · have hqb : (q2 != 0) = true := by simpa using hq
      clear hR hq
      go_enter Try.func4, Try.ntmps4
      go_wp2_with (first | (go_at_call 9; refine (D0.out _).mono ?_; rintro e w' ⟨rfl, n, rfl⟩) | (go_at_call 10; refine (D1.out _).mono ?_; rintro e w' ⟨rfl, n1, rfl⟩; clear D1) | (go_at_call 10; refine (D2.out _).mono ?_; rintro e w' ⟨rfl, n2, rfl⟩; clear D2) | (go_at_call 10; refine (D3.out _).mono ?_; rintro e w' ⟨rfl, n3, rfl⟩; clear D3) | (go_at_call 10; refine (D4.out _).mono ?_; rintro e w' ⟨rfl, n4, rfl⟩; clear D4))
      go_ret
      exact ⟨rfl, below_drewN (Below.refl _ _) _⟩
  · have hpb : (p2 != 0) = true := by simpa using hp
    clear hR hp
    go_enter Try.func4, Try.ntmps4
    go_wp2_with (first | (go_at_call 9; refine (D0.out _).mono ?_; rintro e w' ⟨rfl, n, rfl⟩) | (go_at_call 10; refine (D1.out _).mono ?_; rintro e w' ⟨rfl, n1, rfl⟩; clear D1) | (go_at_call 10; refine (D2.out _).mono ?_; rintro e w' ⟨rfl, n2, rfl⟩; clear D2) | (go_at_call 10; refine (D3.out _).mono ?_; rintro e w' ⟨rfl, n3, rfl⟩; clear D3) | (go_at_call 10; refine (D4.out _).mono ?_; rintro e w' ⟨rfl, n4, rfl⟩; clear D4))
    go_ret
    exact ⟨rfl, below_drewN (Below.refl _ _) _⟩

theorem opened (H : Type) (enc : TypeId × Value → H) (W : World) (base : Nat) (args : Array Value) (ds : List (DataW H)) (p : List MemPlace)
    (hval : ∀ (j : Nat) t v, Try.f4.params[j]? = some t → args[j]? = some v → Value.okWide Try.prog W .any base t v)
    (hA : DataW.TrodAll enc Try.prog W 0 (fun _ => true) true Try.f4.params.toList args.toList ds p)
    (_hr : ∀ x ∈ DataW.weightsEach Try.prog Try.f4.params.toList ds, x ≤ reachBytes)
    (_hL : laidMetH Try.prog Rows.fixpRoundsRow.laid W) :
    Calls Try.prog 4 args W fun e W' => e = .returned (.bool true) ∧ Below W.heap.size W W' := by
  rw [Try.params4] at hA hval
  obtain ⟨v0, vs0, d0, ds0, p0, q0, hargs, rfl, rfl, h0, r0⟩ := trodAll_cons hA
  obtain ⟨v1, vs1, d1, ds1, p1, q1, rfl, rfl, rfl, h1, r1⟩ := trodAll_cons r0
  obtain ⟨v2, vs2, d2, ds2, p2, q2, rfl, rfl, rfl, h2, r2⟩ := trodAll_cons r1
  obtain ⟨rfl, rfl, rfl⟩ := trodAll_nil r2
  obtain rfl : args = #[v0, v1, v2] := by cases args; simp_all
  obtain ⟨a0, rfl, rfl, rfl, w0⟩ := open_int Try.underlying3 (hval 0 3 v0 rfl rfl) h0
  obtain ⟨a1, rfl, rfl, rfl, w1⟩ := open_int Try.underlying3 (hval 1 3 v1 rfl rfl) h1
  obtain ⟨a2, rfl, rfl, rfl, w2⟩ := open_int Try.underlying3 (hval 2 3 v2 rfl rfl) h2
  exact walk a0 a1 a2 W (i64_wf w0) (i64_wf w1) (i64_wf w2)
end Go.Proofs.Ytihjphfdgimmbaa.fixpRounds
