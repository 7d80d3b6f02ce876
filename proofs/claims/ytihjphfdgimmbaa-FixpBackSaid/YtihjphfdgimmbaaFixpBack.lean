/- FixpBack: the walk, and the step from the law's arguments to it (printed by genlaws.py). -/
import Derived.Test.YtihjphfdgimmbaaFixpWakes
import Derived.Test.YtihjphfdgimmbaaFixpLaws
namespace Go.Proofs.Ytihjphfdgimmbaa.fixpBack
open Go.ChangeShapes Go.WideShapes Go.ChangeAt Go.RowKit Go.Proofs.Ytihjphfdgimmbaa.Bas Go.Proofs.Ytihjphfdgimmbaa.FixpM Go.Proofs.Ytihjphfdgimmbaa.FixpW Go.Proofs.Ytihjphfdgimmbaa.FixpR

set_option maxHeartbeats 4000000 in
set_option maxRecDepth 100000 in
theorem walk (a b c : Int) (w : World) (ha : I64 a) (hb : I64 b) (hc : I64 c) :
    Calls Try.prog 6 #[.int .i64 a, .int .i64 b, .int .i64 c] w fun e w' => e = .returned (.bool true) ∧ Below w.heap.size w w' := by
  obtain ⟨f, hf⟩ : ∃ f, fits c = f := ⟨_, rfl⟩
  have C1 := fun W => add_calls a b W ha hb
  have C2 := fun W => add_calls b a W hb ha
  rw [← addF_comm a b] at C2
  have C4 := fun W => mul_calls a b W ha hb
  have C5 := fun W => mul_calls b a W hb ha
  rw [← mulF_comm a b] at C5
  have C6 := fun W => fits_calls c W hc
  rw [hf] at C6
  obtain ⟨x, e, hx⟩ : ∃ x e, addF a b = (x, e) := ⟨_, _, rfl⟩
  obtain ⟨p, g, hp⟩ : ∃ p g, mulF a b = (p, g) := ⟨_, _, rfl⟩
  have HX := Lib.hid hx
  have HP := Lib.hid hp
  rw [hx] at C1 C2
  rw [hp] at C4 C5
  have D1 := Lib.hid C1
  have D2 := Lib.hid C2
  have D4 := Lib.hid C4
  have D5 := Lib.hid C5
  have D6 := Lib.hid C6
  have D0 := Lib.hid (fun W => wakes_calls W)
  have HF := Lib.hid hf
  clear C1 C2 C4 C5 C6 ha hb hx hp hf
  by_cases he : e = 0
  · subst he
    have C3 := fun W => sub_calls x b W (i64_of_fits (addF_ok HX.out).2.2.1) (i64_of_fits (addF_ok HX.out).2.1)
    rw [sub_back HX.out] at C3
    have D3 := Lib.hid C3
    clear C3
    by_cases hg : g = 0
    · subst hg
      by_cases hc1 : c < 1
      · clear HF HX HP hc
        go_enter Try.func6, Try.ntmps6
        go_wp2_with (first | (go_at_call 9; refine (D0.out _).mono ?_; rintro e w' ⟨rfl, n, rfl⟩) | (go_at_call 12; refine (D1.out _).mono ?_; rintro e w' ⟨rfl, rfl⟩; clear D1) | (go_at_call 12; refine (D2.out _).mono ?_; rintro e w' ⟨rfl, rfl⟩; clear D2) | (go_at_call 16; refine (D3.out _).mono ?_; rintro e w' ⟨rfl, rfl⟩; clear D3) | (go_at_call 18; refine (D4.out _).mono ?_; rintro e w' ⟨rfl, rfl⟩; clear D4) | (go_at_call 18; refine (D5.out _).mono ?_; rintro e w' ⟨rfl, rfl⟩; clear D5))
        go_ret
        exact ⟨rfl, below_drewN (Below.refl _ _) _⟩
      · cases f
        · clear HF HX HP hc
          go_enter Try.func6, Try.ntmps6
          go_wp2_with (first | (go_at_call 9; refine (D0.out _).mono ?_; rintro e w' ⟨rfl, n, rfl⟩) | (go_at_call 12; refine (D1.out _).mono ?_; rintro e w' ⟨rfl, rfl⟩; clear D1) | (go_at_call 12; refine (D2.out _).mono ?_; rintro e w' ⟨rfl, rfl⟩; clear D2) | (go_at_call 16; refine (D3.out _).mono ?_; rintro e w' ⟨rfl, rfl⟩; clear D3) | (go_at_call 18; refine (D4.out _).mono ?_; rintro e w' ⟨rfl, rfl⟩; clear D4) | (go_at_call 18; refine (D5.out _).mono ?_; rintro e w' ⟨rfl, rfl⟩; clear D5) | (go_at_call 14; refine (D6.out _).mono ?_; rintro e w' ⟨rfl, rfl⟩; clear D6))
          go_ret
          exact ⟨rfl, below_drewN (Below.refl _ _) _⟩
        · obtain ⟨d, hd, hfd, hm⟩ := div_back HP.out (show 0 < c by omega) HF.out
          have D7 := Lib.hid (fun W => show Calls Try.prog 10 #[.int .i64 a, .int .i64 b, .int .i64 c, .int .i64 0] W fun e w' => e = .returned (.tuple #[.int .i64 d, .int .i64 0]) ∧ ∃ n, W.drewN n = w' by have := muldiv_calls a b c 0 W (i64_of_fits (mulF_ok HP.out).1) (i64_of_fits (mulF_ok HP.out).2.1) hc; rw [hd] at this; exact this)
          have C8 := fun W => mul_calls d c W (i64_of_fits hfd) hc
          have hpf := (mulF_ok HP.out).2.2.1
          have hcf := HF.out
          rw [fits_iff] at hpf hcf
          rcases hm with ⟨hm, hmf, h1, h2⟩ | ⟨hm, h2⟩
          · rw [hm] at C8
            rw [fits_iff] at hmf
            generalize d * c = m at C8 h1 h2 hmf
            have E1 : IntKind.i64.wrap (p - m) = p - m := by rw [IntKind.wrap_i64]; omega
            have D8 := Lib.hid C8
            clear C8 HF HX HP hc hpf hcf hmf hm hd hfd
            go_enter Try.func6, Try.ntmps6
            go_wp2_with (first | (go_at_call 9; refine (D0.out _).mono ?_; rintro e w' ⟨rfl, n, rfl⟩) | (go_at_call 12; refine (D1.out _).mono ?_; rintro e w' ⟨rfl, rfl⟩; clear D1) | (go_at_call 12; refine (D2.out _).mono ?_; rintro e w' ⟨rfl, rfl⟩; clear D2) | (go_at_call 16; refine (D3.out _).mono ?_; rintro e w' ⟨rfl, rfl⟩; clear D3) | (go_at_call 18; refine (D4.out _).mono ?_; rintro e w' ⟨rfl, rfl⟩; clear D4) | (go_at_call 18; refine (D5.out _).mono ?_; rintro e w' ⟨rfl, rfl⟩; clear D5) | (go_at_call 14; refine (D6.out _).mono ?_; rintro e w' ⟨rfl, rfl⟩; clear D6) | (go_at_call 10; refine (D7.out _).mono ?_; rintro e w' ⟨rfl, n7, rfl⟩; clear D7) | (go_at_call 18; refine (D8.out _).mono ?_; rintro e w' ⟨rfl, rfl⟩; clear D8))
            go_ret
            exact ⟨rfl, below_drewN (Below.refl _ _) _⟩
          · rw [hm] at C8
            have E1 : IntKind.i64.wrap (-4611686018427387904 + c) = -4611686018427387904 + c := by rw [IntKind.wrap_i64]; omega
            have D8 := Lib.hid C8
            clear C8 HF HX HP hc hpf hcf hm hd hfd
            go_enter Try.func6, Try.ntmps6
            go_wp2_with (first | (go_at_call 9; refine (D0.out _).mono ?_; rintro e w' ⟨rfl, n, rfl⟩) | (go_at_call 12; refine (D1.out _).mono ?_; rintro e w' ⟨rfl, rfl⟩; clear D1) | (go_at_call 12; refine (D2.out _).mono ?_; rintro e w' ⟨rfl, rfl⟩; clear D2) | (go_at_call 16; refine (D3.out _).mono ?_; rintro e w' ⟨rfl, rfl⟩; clear D3) | (go_at_call 18; refine (D4.out _).mono ?_; rintro e w' ⟨rfl, rfl⟩; clear D4) | (go_at_call 18; refine (D5.out _).mono ?_; rintro e w' ⟨rfl, rfl⟩; clear D5) | (go_at_call 14; refine (D6.out _).mono ?_; rintro e w' ⟨rfl, rfl⟩; clear D6) | (go_at_call 10; refine (D7.out _).mono ?_; rintro e w' ⟨rfl, n7, rfl⟩; clear D7) | (go_at_call 18; refine (D8.out _).mono ?_; rintro e w' ⟨rfl, rfl⟩; clear D8))
            go_ret
            exact ⟨rfl, below_drewN (Below.refl _ _) _⟩
    · have hgb : (g != 0) = true := by simpa using hg
      clear HF HX HP hc hg
      go_enter Try.func6, Try.ntmps6
      go_wp2_with (first | (go_at_call 9; refine (D0.out _).mono ?_; rintro e w' ⟨rfl, n, rfl⟩) | (go_at_call 12; refine (D1.out _).mono ?_; rintro e w' ⟨rfl, rfl⟩; clear D1) | (go_at_call 12; refine (D2.out _).mono ?_; rintro e w' ⟨rfl, rfl⟩; clear D2) | (go_at_call 16; refine (D3.out _).mono ?_; rintro e w' ⟨rfl, rfl⟩; clear D3) | (go_at_call 18; refine (D4.out _).mono ?_; rintro e w' ⟨rfl, rfl⟩; clear D4) | (go_at_call 18; refine (D5.out _).mono ?_; rintro e w' ⟨rfl, rfl⟩; clear D5))
      go_ret
      exact ⟨rfl, below_drewN (Below.refl _ _) _⟩
  · have heb : (e == 0) = false := by simpa using he
    clear he
    by_cases hg : g = 0
    · subst hg
      by_cases hc1 : c < 1
      · clear HF HX HP hc
        go_enter Try.func6, Try.ntmps6
        go_wp2_with (first | (go_at_call 9; refine (D0.out _).mono ?_; rintro e w' ⟨rfl, n, rfl⟩) | (go_at_call 12; refine (D1.out _).mono ?_; rintro e w' ⟨rfl, rfl⟩; clear D1) | (go_at_call 12; refine (D2.out _).mono ?_; rintro e w' ⟨rfl, rfl⟩; clear D2) | (go_at_call 18; refine (D4.out _).mono ?_; rintro e w' ⟨rfl, rfl⟩; clear D4) | (go_at_call 18; refine (D5.out _).mono ?_; rintro e w' ⟨rfl, rfl⟩; clear D5))
        go_ret
        exact ⟨rfl, below_drewN (Below.refl _ _) _⟩
      · cases f
        · clear HF HX HP hc
          go_enter Try.func6, Try.ntmps6
          go_wp2_with (first | (go_at_call 9; refine (D0.out _).mono ?_; rintro e w' ⟨rfl, n, rfl⟩) | (go_at_call 12; refine (D1.out _).mono ?_; rintro e w' ⟨rfl, rfl⟩; clear D1) | (go_at_call 12; refine (D2.out _).mono ?_; rintro e w' ⟨rfl, rfl⟩; clear D2) | (go_at_call 18; refine (D4.out _).mono ?_; rintro e w' ⟨rfl, rfl⟩; clear D4) | (go_at_call 18; refine (D5.out _).mono ?_; rintro e w' ⟨rfl, rfl⟩; clear D5) | (go_at_call 14; refine (D6.out _).mono ?_; rintro e w' ⟨rfl, rfl⟩; clear D6))
          go_ret
          exact ⟨rfl, below_drewN (Below.refl _ _) _⟩
        · obtain ⟨d, hd, hfd, hm⟩ := div_back HP.out (show 0 < c by omega) HF.out
          have D7 := Lib.hid (fun W => show Calls Try.prog 10 #[.int .i64 a, .int .i64 b, .int .i64 c, .int .i64 0] W fun e w' => e = .returned (.tuple #[.int .i64 d, .int .i64 0]) ∧ ∃ n, W.drewN n = w' by have := muldiv_calls a b c 0 W (i64_of_fits (mulF_ok HP.out).1) (i64_of_fits (mulF_ok HP.out).2.1) hc; rw [hd] at this; exact this)
          have C8 := fun W => mul_calls d c W (i64_of_fits hfd) hc
          have hpf := (mulF_ok HP.out).2.2.1
          have hcf := HF.out
          rw [fits_iff] at hpf hcf
          rcases hm with ⟨hm, hmf, h1, h2⟩ | ⟨hm, h2⟩
          · rw [hm] at C8
            rw [fits_iff] at hmf
            generalize d * c = m at C8 h1 h2 hmf
            have E1 : IntKind.i64.wrap (p - m) = p - m := by rw [IntKind.wrap_i64]; omega
            have D8 := Lib.hid C8
            clear C8 HF HX HP hc hpf hcf hmf hm hd hfd
            go_enter Try.func6, Try.ntmps6
            go_wp2_with (first | (go_at_call 9; refine (D0.out _).mono ?_; rintro e w' ⟨rfl, n, rfl⟩) | (go_at_call 12; refine (D1.out _).mono ?_; rintro e w' ⟨rfl, rfl⟩; clear D1) | (go_at_call 12; refine (D2.out _).mono ?_; rintro e w' ⟨rfl, rfl⟩; clear D2) | (go_at_call 18; refine (D4.out _).mono ?_; rintro e w' ⟨rfl, rfl⟩; clear D4) | (go_at_call 18; refine (D5.out _).mono ?_; rintro e w' ⟨rfl, rfl⟩; clear D5) | (go_at_call 14; refine (D6.out _).mono ?_; rintro e w' ⟨rfl, rfl⟩; clear D6) | (go_at_call 10; refine (D7.out _).mono ?_; rintro e w' ⟨rfl, n7, rfl⟩; clear D7) | (go_at_call 18; refine (D8.out _).mono ?_; rintro e w' ⟨rfl, rfl⟩; clear D8))
            go_ret
            exact ⟨rfl, below_drewN (Below.refl _ _) _⟩
          · rw [hm] at C8
            have E1 : IntKind.i64.wrap (-4611686018427387904 + c) = -4611686018427387904 + c := by rw [IntKind.wrap_i64]; omega
            have D8 := Lib.hid C8
            clear C8 HF HX HP hc hpf hcf hm hd hfd
            go_enter Try.func6, Try.ntmps6
            go_wp2_with (first | (go_at_call 9; refine (D0.out _).mono ?_; rintro e w' ⟨rfl, n, rfl⟩) | (go_at_call 12; refine (D1.out _).mono ?_; rintro e w' ⟨rfl, rfl⟩; clear D1) | (go_at_call 12; refine (D2.out _).mono ?_; rintro e w' ⟨rfl, rfl⟩; clear D2) | (go_at_call 18; refine (D4.out _).mono ?_; rintro e w' ⟨rfl, rfl⟩; clear D4) | (go_at_call 18; refine (D5.out _).mono ?_; rintro e w' ⟨rfl, rfl⟩; clear D5) | (go_at_call 14; refine (D6.out _).mono ?_; rintro e w' ⟨rfl, rfl⟩; clear D6) | (go_at_call 10; refine (D7.out _).mono ?_; rintro e w' ⟨rfl, n7, rfl⟩; clear D7) | (go_at_call 18; refine (D8.out _).mono ?_; rintro e w' ⟨rfl, rfl⟩; clear D8))
            go_ret
            exact ⟨rfl, below_drewN (Below.refl _ _) _⟩
    · have hgb : (g != 0) = true := by simpa using hg
      clear HF HX HP hc hg
      go_enter Try.func6, Try.ntmps6
      go_wp2_with (first | (go_at_call 9; refine (D0.out _).mono ?_; rintro e w' ⟨rfl, n, rfl⟩) | (go_at_call 12; refine (D1.out _).mono ?_; rintro e w' ⟨rfl, rfl⟩; clear D1) | (go_at_call 12; refine (D2.out _).mono ?_; rintro e w' ⟨rfl, rfl⟩; clear D2) | (go_at_call 18; refine (D4.out _).mono ?_; rintro e w' ⟨rfl, rfl⟩; clear D4) | (go_at_call 18; refine (D5.out _).mono ?_; rintro e w' ⟨rfl, rfl⟩; clear D5))
      go_ret
      exact ⟨rfl, below_drewN (Below.refl _ _) _⟩

theorem opened (H : Type) (enc : TypeId × Value → H) (W : World) (base : Nat) (args : Array Value) (ds : List (DataW H)) (p : List MemPlace)
    (hval : ∀ (j : Nat) t v, Try.f6.params[j]? = some t → args[j]? = some v → Value.okWide Try.prog W .any base t v)
    (hA : DataW.TrodAll enc Try.prog W 0 (fun _ => true) true Try.f6.params.toList args.toList ds p)
    (_hr : ∀ x ∈ DataW.weightsEach Try.prog Try.f6.params.toList ds, x ≤ reachBytes)
    (_hL : laidMetH Try.prog Rows.fixpBackRow.laid W) :
    Calls Try.prog 6 args W fun e W' => e = .returned (.bool true) ∧ Below W.heap.size W W' := by
  rw [Try.params6] at hA hval
  obtain ⟨v0, vs0, d0, ds0, p0, q0, hargs, rfl, rfl, h0, r0⟩ := trodAll_cons hA
  obtain ⟨v1, vs1, d1, ds1, p1, q1, rfl, rfl, rfl, h1, r1⟩ := trodAll_cons r0
  obtain ⟨v2, vs2, d2, ds2, p2, q2, rfl, rfl, rfl, h2, r2⟩ := trodAll_cons r1
  obtain ⟨rfl, rfl, rfl⟩ := trodAll_nil r2
  obtain rfl : args = #[v0, v1, v2] := by cases args; simp_all
  obtain ⟨a0, rfl, rfl, rfl, w0⟩ := open_int Try.underlying3 (hval 0 3 v0 rfl rfl) h0
  obtain ⟨a1, rfl, rfl, rfl, w1⟩ := open_int Try.underlying3 (hval 1 3 v1 rfl rfl) h1
  obtain ⟨a2, rfl, rfl, rfl, w2⟩ := open_int Try.underlying3 (hval 2 3 v2 rfl rfl) h2
  exact walk a0 a1 a2 W (i64_wf w0) (i64_wf w1) (i64_wf w2)
end Go.Proofs.Ytihjphfdgimmbaa.fixpBack
