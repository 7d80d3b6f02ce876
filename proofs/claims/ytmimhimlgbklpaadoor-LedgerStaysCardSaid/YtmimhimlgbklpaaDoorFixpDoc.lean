/- The document's own answers of layer 1: Fits, Add, Sub, Mul, MulDiv are FixpM's. -/
import Derived.Test.YtmimhimlgbklpaaDoorFixpOver
import Derived.Deep.DeepCutAuto
import Derived.Deep.CutBlock
set_option linter.unusedSimpArgs false
set_option linter.unusedVariables false
namespace Go.Proofs.YtmimhimlgbklpaaDoor.FixpR
open Go.RowKit Go.Proofs.YtmimhimlgbklpaaDoor.Bas Go.Proofs.YtmimhimlgbklpaaDoor.FixpM Go.Proofs.YtmimhimlgbklpaaDoor.FixpW

theorem rfits_calls (x : Int) (w : World) :
    Calls Tryd.prog 39 #[.int .i64 x] w fun e w' => e = .returned (.bool (fits x)) ∧ w = w' := by
  by_cases h1 : x ≤ 4611686018427387904
  · by_cases h2 : (-4611686018427387904 : Int) ≤ x
    · go_enter Tryd.func39, Tryd.ntmps39
      go_wp2_with fail
      go_ret
      exact ⟨ret_bool (by simp [fits, h1, h2]), rfl⟩
    · go_enter Tryd.func39, Tryd.ntmps39
      go_wp2_with fail
      go_ret
      exact ⟨ret_bool (by simp only [fits]; rw [Bool.eq_iff_iff]; simp; omega), rfl⟩
  · go_enter Tryd.func39, Tryd.ntmps39
    go_wp2_with fail
    go_ret
    exact ⟨ret_bool (by simp [fits, h1]), rfl⟩

set_option maxHeartbeats 1000000 in
theorem radd_calls (a b : Int) (w : World) :
    Calls Tryd.prog 41 #[.int .i64 a, .int .i64 b] w fun e w' =>
      e = .returned (.tuple #[.int .i64 (addF a b).1, .int .i64 (addF a b).2]) ∧ w = w' := by
  cases fa : fits a
  · have hf := Lib.hid (addF_no1 a b fa)
    go_enter Tryd.func41, Tryd.ntmps41
    go_wp2_with (go_at_call 39; refine (rfits_calls _ _).mono ?_; rintro e w' ⟨rfl, rfl⟩)
    go_ret2
    exact ⟨by rw [hf.out]; exact ret_pair rfl rfl, rfl⟩
  · cases fb : fits b
    · have hf := Lib.hid (addF_no2 a b fb)
      go_enter Tryd.func41, Tryd.ntmps41
      go_wp2_with (go_at_call 39; refine (rfits_calls _ _).mono ?_; rintro e w' ⟨rfl, rfl⟩)
      go_ret2
      exact ⟨by rw [hf.out]; exact ret_pair rfl rfl, rfl⟩
    · have h1 := fits_i64 fa
      have h2 := fits_i64 fb
      have hf : addF a b = okv (a + b) := by unfold addF; rw [fa, fb]; rfl
      obtain ⟨s, hs⟩ : ∃ s, s = a + b := ⟨_, rfl⟩
      rw [← hs] at hf
      by_cases hp : 0 < a
      · have E2 : IntKind.i64.wrap (4611686018427387904 - a) = 4611686018427387904 - a := by rw [IntKind.wrap_i64]; omega
        by_cases ho : 4611686018427387904 - a < b
        · have hF := Lib.hid (show addF a b = (0, 4) by rw [hf]; unfold okv; have : fits s = false := by rw [fits_abs]; simp; omega
                                                        rw [this]; rfl)
          clear hf hs
          go_enter Tryd.func41, Tryd.ntmps41
          go_wp2_with (go_at_call 39; refine (rfits_calls _ _).mono ?_; rintro e w' ⟨rfl, rfl⟩)
          go_ret2
          exact ⟨by rw [hF.out]; exact ret_pair rfl rfl, rfl⟩
        · have hF := Lib.hid (show addF a b = (s, 0) by rw [hf]; unfold okv; have : fits s = true := by rw [fits_abs]; simp; omega
                                                        rw [this]; rfl)
          have E1 : IntKind.i64.wrap (a + b) = s := by rw [IntKind.wrap_i64]; omega
          have hn : ¬ a < 0 := by omega
          clear hf hs
          go_enter Tryd.func41, Tryd.ntmps41
          go_wp2_with (go_at_call 39; refine (rfits_calls _ _).mono ?_; rintro e w' ⟨rfl, rfl⟩)
          go_ret2
          exact ⟨by rw [hF.out]; exact ret_pair rfl rfl, rfl⟩
      · by_cases hn : a < 0
        · have E3 : IntKind.i64.wrap (-4611686018427387904 - a) = -4611686018427387904 - a := by rw [IntKind.wrap_i64]; omega
          by_cases ho : b < -4611686018427387904 - a
          · have hF := Lib.hid (show addF a b = (0, 4) by rw [hf]; unfold okv; have : fits s = false := by rw [fits_abs]; simp; omega
                                                          rw [this]; rfl)
            clear hf hs
            go_enter Tryd.func41, Tryd.ntmps41
            go_wp2_with (go_at_call 39; refine (rfits_calls _ _).mono ?_; rintro e w' ⟨rfl, rfl⟩)
            go_ret2
            exact ⟨by rw [hF.out]; exact ret_pair rfl rfl, rfl⟩
          · have hF := Lib.hid (show addF a b = (s, 0) by rw [hf]; unfold okv; have : fits s = true := by rw [fits_abs]; simp; omega
                                                          rw [this]; rfl)
            have E1 : IntKind.i64.wrap (a + b) = s := by rw [IntKind.wrap_i64]; omega
            clear hf hs
            go_enter Tryd.func41, Tryd.ntmps41
            go_wp2_with (go_at_call 39; refine (rfits_calls _ _).mono ?_; rintro e w' ⟨rfl, rfl⟩)
            go_ret2
            exact ⟨by rw [hF.out]; exact ret_pair rfl rfl, rfl⟩
        · have hF := Lib.hid (show addF a b = (s, 0) by rw [hf]; unfold okv; have : fits s = true := by rw [fits_abs]; simp; omega
                                                        rw [this]; rfl)
          have E1 : IntKind.i64.wrap (a + b) = s := by rw [IntKind.wrap_i64]; omega
          clear hf hs
          go_enter Tryd.func41, Tryd.ntmps41
          go_wp2_with (go_at_call 39; refine (rfits_calls _ _).mono ?_; rintro e w' ⟨rfl, rfl⟩)
          go_ret2
          exact ⟨by rw [hF.out]; exact ret_pair rfl rfl, rfl⟩

theorem natAbs_lt {x : Int} (h : fits x = true) : x.natAbs < 9223372036854775808 := by have := fits_i64 h; omega
theorem prod_lt (a b : Nat) (ha : a ≤ 4611686018427387904) (hb : b ≤ 4611686018427387904) : a * b ≤ 21267647932558653966460912964485513216 := by
  have := Nat.mul_le_mul ha hb
  omega

end Go.Proofs.YtmimhimlgbklpaaDoor.FixpR
