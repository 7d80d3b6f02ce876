/- The document's own answers of layer 1: Fits, Add, Sub, Mul, MulDiv are FixpM's. -/
import Derived.Test.YtjfcghbifhmacaaDoorFixpOver
import Derived.Deep.DeepCutAuto
import Derived.Deep.CutBlock
namespace Go.Proofs.YtjfcghbifhmacaaDoor.FixpR
open Go.RowKit Go.Proofs.YtjfcghbifhmacaaDoor.Bas Go.Proofs.YtjfcghbifhmacaaDoor.FixpM Go.Proofs.YtjfcghbifhmacaaDoor.FixpW

set_option maxHeartbeats 400000 in
theorem rabs_calls (x : Int) (w : World) (h : I64 x) :
    Calls Tryd.prog 37 #[.int .i64 x] w fun e w' => e = .returned (.int .u64 (x.natAbs : Int)) ∧ w = w' := by
  obtain ⟨h1, h2⟩ := h
  by_cases hx : x < 0
  · go_enter Tryd.func37, Tryd.ntmps37
    go_wp2
    go_ret
    refine ⟨ret_u64 ?_, rfl⟩
    simp only [IntKind.wrap_u64, wrap64]
    omega
  · go_enter Tryd.func37, Tryd.ntmps37
    go_wp2
    go_ret
    refine ⟨ret_u64 ?_, rfl⟩
    omega

theorem rfits_calls (x : Int) (w : World) :
    Calls Tryd.prog 34 #[.int .i64 x] w fun e w' => e = .returned (.bool (fits x)) ∧ w = w' := by
  by_cases h1 : x ≤ 4611686018427387904
  · by_cases h2 : (-4611686018427387904 : Int) ≤ x
    · go_enter Tryd.func34, Tryd.ntmps34
      go_wp2_with fail
      go_ret
      exact ⟨ret_bool (by simp [fits, h1, h2]), rfl⟩
    · go_enter Tryd.func34, Tryd.ntmps34
      go_wp2_with fail
      go_ret
      exact ⟨ret_bool (by simp only [fits]; rw [Bool.eq_iff_iff]; simp; omega), rfl⟩
  · go_enter Tryd.func34, Tryd.ntmps34
    go_wp2_with fail
    go_ret
    exact ⟨ret_bool (by simp [fits, h1]), rfl⟩

set_option maxHeartbeats 1000000 in
theorem radd_calls (a b : Int) (w : World) :
    Calls Tryd.prog 45 #[.int .i64 a, .int .i64 b] w fun e w' =>
      e = .returned (.tuple #[.int .i64 (addF a b).1, .int .i64 (addF a b).2]) ∧ w = w' := by
  cases fa : fits a
  · have hf := Lib.hid (addF_no1 a b fa)
    go_enter Tryd.func45, Tryd.ntmps45
    go_wp2_with (go_at_call 34; refine (rfits_calls _ _).mono ?_; rintro e w' ⟨rfl, rfl⟩)
    go_ret2
    exact ⟨by rw [hf.out]; exact ret_pair rfl rfl, rfl⟩
  · cases fb : fits b
    · have hf := Lib.hid (addF_no2 a b fb)
      go_enter Tryd.func45, Tryd.ntmps45
      go_wp2_with (go_at_call 34; refine (rfits_calls _ _).mono ?_; rintro e w' ⟨rfl, rfl⟩)
      go_ret2
      exact ⟨by rw [hf.out]; exact ret_pair rfl rfl, rfl⟩
    · have h1 := fits_i64 fa
      have h2 := fits_i64 fb
      have hf : addF a b = okv (a + b) := by unfold addF; rw [fa, fb]; rfl
      obtain ⟨s, hs⟩ : ∃ s, s = a + b := ⟨_, rfl⟩
      rw [← hs] at hf
      by_cases hp : 0 < a
      · have E2 : IntKind.i64.wrap (4611686018427387904 - a) = 4611686018427387904 - a := by rw [IntKind.wrap_i64]; omega
        by_cases ho : 4611686018427387904 - a < b
        · have hF := Lib.hid (show addF a b = (0, 4) by rw [hf]; unfold okv; have : fits s = false := by rw [fits_abs]; simp; omega
                                                        rw [this]; rfl)
          clear hf hs
          go_enter Tryd.func45, Tryd.ntmps45
          go_wp2_with (go_at_call 34; refine (rfits_calls _ _).mono ?_; rintro e w' ⟨rfl, rfl⟩)
          go_ret2
          exact ⟨by rw [hF.out]; exact ret_pair rfl rfl, rfl⟩
        · have hF := Lib.hid (show addF a b = (s, 0) by rw [hf]; unfold okv; have : fits s = true := by rw [fits_abs]; simp; omega
                                                        rw [this]; rfl)
          have E1 : IntKind.i64.wrap (a + b) = s := by rw [IntKind.wrap_i64]; omega
          have hn : ¬ a < 0 := by omega
          clear hf hs
          go_enter Tryd.func45, Tryd.ntmps45
          go_wp2_with (go_at_call 34; refine (rfits_calls _ _).mono ?_; rintro e w' ⟨rfl, rfl⟩)
          go_ret2
          exact ⟨by rw [hF.out]; exact ret_pair rfl rfl, rfl⟩
      · by_cases hn : a < 0
        · have E3 : IntKind.i64.wrap (-4611686018427387904 - a) = -4611686018427387904 - a := by rw [IntKind.wrap_i64]; omega
          by_cases ho : b < -4611686018427387904 - a
          · have hF := Lib.hid (show addF a b = (0, 4) by rw [hf]; unfold okv; have : fits s = false := by rw [fits_abs]; simp; omega
                                                          rw [this]; rfl)
            clear hf hs
            go_enter Tryd.func45, Tryd.ntmps45
            go_wp2_with (go_at_call 34; refine (rfits_calls _ _).mono ?_; rintro e w' ⟨rfl, rfl⟩)
            go_ret2
            exact ⟨by rw [hF.out]; exact ret_pair rfl rfl, rfl⟩
          · have hF := Lib.hid (show addF a b = (s, 0) by rw [hf]; unfold okv; have : fits s = true := by rw [fits_abs]; simp; omega
                                                          rw [this]; rfl)
            have E1 : IntKind.i64.wrap (a + b) = s := by rw [IntKind.wrap_i64]; omega
            clear hf hs
            go_enter Tryd.func45, Tryd.ntmps45
            go_wp2_with (go_at_call 34; refine (rfits_calls _ _).mono ?_; rintro e w' ⟨rfl, rfl⟩)
            go_ret2
            exact ⟨by rw [hF.out]; exact ret_pair rfl rfl, rfl⟩
        · have hF := Lib.hid (show addF a b = (s, 0) by rw [hf]; unfold okv; have : fits s = true := by rw [fits_abs]; simp; omega
                                                        rw [this]; rfl)
          have E1 : IntKind.i64.wrap (a + b) = s := by rw [IntKind.wrap_i64]; omega
          clear hf hs
          go_enter Tryd.func45, Tryd.ntmps45
          go_wp2_with (go_at_call 34; refine (rfits_calls _ _).mono ?_; rintro e w' ⟨rfl, rfl⟩)
          go_ret2
          exact ⟨by rw [hF.out]; exact ret_pair rfl rfl, rfl⟩

theorem natAbs_lt {x : Int} (h : fits x = true) : x.natAbs < 9223372036854775808 := by have := fits_i64 h; omega
theorem prod_lt (a b : Nat) (ha : a ≤ 4611686018427387904) (hb : b ≤ 4611686018427387904) : a * b ≤ 21267647932558653966460912964485513216 := by
  have := Nat.mul_le_mul ha hb
  omega

set_option maxHeartbeats 1000000 in
theorem rmul_calls (a b : Int) (w : World) (ha : I64 a) (hb : I64 b) :
    Calls Tryd.prog 44 #[.int .i64 a, .int .i64 b] w fun e w' =>
      e = .returned (.tuple #[.int .i64 (mulF a b).1, .int .i64 (mulF a b).2]) ∧ Below w.heap.size w w' := by
  cases fa : fits a
  · have hf := Lib.hid (show mulF a b = (0, 4) by unfold mulF; rw [fa]; rfl)
    go_enter Tryd.func44, Tryd.ntmps44
    go_wp2_with (go_at_call 34; refine (rfits_calls _ _).mono ?_; rintro e w' ⟨rfl, rfl⟩)
    go_ret2
    exact ⟨by rw [hf.out]; exact ret_pair rfl rfl, Below.refl _ _⟩
  · cases fb : fits b
    · have hf := Lib.hid (show mulF a b = (0, 4) by unfold mulF; rw [fa, fb]; rfl)
      go_enter Tryd.func44, Tryd.ntmps44
      go_wp2_with (go_at_call 34; refine (rfits_calls _ _).mono ?_; rintro e w' ⟨rfl, rfl⟩)
      go_ret2
      exact ⟨by rw [hf.out]; exact ret_pair rfl rfl, Below.refl _ _⟩
    · have h1 := fits_i64 fa
      have h2 := fits_i64 fb
      have hf := Lib.hid (show mulF a b = okv (sgn (decide (a < 0) != decide (b < 0)) (a.natAbs * b.natAbs)) by unfold mulF; rw [fa, fb, ← mul_sgn]; rfl)
      have hp := prod_lt _ _ h1 h2
      have A1 := fun W => rabs_calls a W ha
      have A2 := fun W => rabs_calls b W hb
      generalize a.natAbs = A at *
      generalize b.natAbs = B at *
      have HA1 := Lib.hid A1
      have HA2 := Lib.hid A2
      have T := Lib.hid (fun W => times_calls A B W (by omega) (by omega))
      have O := Lib.hid (fun neg W => of_calls (A * B) neg W (by omega))
      clear hp A1 A2 h1 h2
      go_enter Tryd.func44, Tryd.ntmps44
      go_wp2_with (first | (go_at_call 34; refine (rfits_calls _ _).mono ?_; rintro e w' ⟨rfl, rfl⟩) | (go_at_call 37; refine (HA1.out _).mono ?_; rintro e w' ⟨rfl, rfl⟩; clear HA1) | (go_at_call 37; refine (HA2.out _).mono ?_; rintro e w' ⟨rfl, rfl⟩) | (go_at_call 36; refine (T.out _).mono ?_; rintro e w1 ⟨rfl, b1⟩) | (go_at_call 38; refine (O.out _ _).mono ?_; rintro e w2 ⟨rfl, b2⟩))
      go_ret2
      exact ⟨by rw [hf.out]; exact ret_pair rfl rfl, b1.trans (b2.mono b1.size)⟩
end Go.Proofs.YtjfcghbifhmacaaDoor.FixpR
