/- The walks of layer 1: each call answers what FixpM says. -/
import Derived.Test.YtmimhimlgbklpaaGreatDoorBase
import Derived.Test.YtmimhimlgbklpaaGreatDoorFixpMath
import Derived.Test.YtmimhimlgbklpaaGreatDoorShelf
import Derived.Test.YtmimhimlgbklpaaGreatDoorRows
import Derived.WalkSpells
import Derived.WalkLawsBesides
import Derived.Laws.BitsAllLaws
import Derived.Laws.Externs
set_option linter.unusedSimpArgs false
set_option linter.unusedVariables false
namespace Go.Proofs.YtmimhimlgbklpaaGreatDoor.FixpW
open Go.RowKit Go.Proofs.YtmimhimlgbklpaaGreatDoor.Bas Go.Proofs.YtmimhimlgbklpaaGreatDoor.FixpM

theorem ret_u64 {a b : Int} (h : a = b) : Ending.returned (.int .u64 a) = .returned (.int .u64 b) := by rw [h]
theorem ret_i64 {a b : Int} (h : a = b) : Ending.returned (.int .i64 a) = .returned (.int .i64 b) := by rw [h]
theorem ret_bool {a b : Bool} (h : a = b) : Ending.returned (.bool a) = .returned (.bool b) := by rw [h]
theorem ret_pair {a b c d : Int} (h : a = c) (h2 : b = d) : Ending.returned (.tuple #[.int .i64 a, .int .i64 b]) = .returned (.tuple #[.int .i64 c, .int .i64 d]) := by rw [h, h2]

/-- an int of 64 bits -/
def I64 (x : Int) : Prop := -9223372036854775808 ≤ x ∧ x ≤ 9223372036854775807
/-- nought and ErrOver, or an amount and OK -/
def Two (p : Int × Int) : Prop := p = (0, 4) ∨ (p.2 = 0 ∧ fits p.1 = true)
theorem two_okv (x : Int) : Two (okv x) := by
  unfold Two okv
  cases h : fits x
  · exact .inl rfl
  · exact .inr ⟨rfl, h⟩
theorem two_addF (a b : Int) : Two (addF a b) := by
  unfold addF; split
  · exact two_okv _
  · exact .inl rfl
theorem two_subF (a b : Int) : Two (subF a b) := by
  unfold subF; split
  · exact two_okv _
  · exact .inl rfl
theorem two_mulF (a b : Int) : Two (mulF a b) := by
  unfold mulF; split
  · exact two_okv _
  · exact .inl rfl
theorem i64_of_fits {x : Int} (h : fits x = true) : I64 x := by rw [fits_iff] at h; unfold I64; omega
theorem two_mulDivF (a b c m : Int) : mulDivF a b c m = (0, 1) ∨ Two (mulDivF a b c m) := by
  unfold mulDivF; split
  · split
    · exact .inl rfl
    · exact .inr (two_okv _)
  · exact .inr (.inl rfl)

set_option maxHeartbeats 400000 in
theorem size_calls (x : Int) (w : World) (h : I64 x) :
    Calls Tryz.prog 72 #[.int .i64 x] w fun e w' => e = .returned (.int .u64 (x.natAbs : Int)) ∧ w = w' := by
  obtain ⟨h1, h2⟩ := h
  by_cases hx : x < 0
  · go_enter Tryz.func72, Tryz.ntmps72
    go_wp2
    go_ret
    refine ⟨ret_u64 ?_, rfl⟩
    simp only [IntKind.wrap_u64]
    omega
  · go_enter Tryz.func72, Tryz.ntmps72
    go_wp2
    go_ret
    refine ⟨ret_u64 ?_, rfl⟩
    omega

set_option maxHeartbeats 400000 in
theorem fits_calls (x : Int) (w : World) (h : I64 x) :
    Calls Tryz.prog 45 #[.int .i64 x] w fun e w' => e = .returned (.bool (fits x)) ∧ w = w' := by
  have hf := Lib.hid (fits_abs x)
  go_enter Tryz.func45, Tryz.ntmps45
  go_wp2_with (go_at_call 72; refine (size_calls _ _ h).mono ?_; rintro e w' ⟨rfl, rfl⟩)
  go_ret
  refine ⟨ret_bool ?_, rfl⟩
  rw [hf.out, decide_eq_decide]
  omega

/-- what 'signed' answers -/
def signedF (high low : Int) (neg : Bool) : Int × Int := if high > 0 ∨ low > 4611686018427387904 then (0, 4) else (sgn neg low.toNat, 0)
theorem signedF_over (high low : Int) (neg : Bool) (h : high > 0 ∨ low > 4611686018427387904) : signedF high low neg = (0, 4) := by unfold signedF; rw [if_pos h]
theorem signedF_ok (high low : Int) (neg : Bool) (h : ¬ (high > 0 ∨ low > 4611686018427387904)) : signedF high low neg = (sgn neg low.toNat, 0) := by unfold signedF; rw [if_neg h]

set_option maxHeartbeats 400000 in
theorem signed_calls (high low : Int) (neg : Bool) (w : World) (h0 : 0 ≤ high) (h1 : 0 ≤ low) (h2 : low < 18446744073709551616) :
    Calls Tryz.prog 73 #[.int .u64 high, .int .u64 low, .bool neg] w fun e w' =>
      e = .returned (.tuple #[.int .i64 (signedF high low neg).1, .int .i64 (signedF high low neg).2]) ∧ w = w' := by
  by_cases hh : high > 0
  · have hf := Lib.hid (signedF_over high low neg (.inl hh))
    go_enter Tryz.func73, Tryz.ntmps73
    go_wp2
    go_ret2
    exact ⟨by rw [hf.out]; exact ret_pair rfl rfl, rfl⟩
  · by_cases hl : low > 4611686018427387904
    · have hf := Lib.hid (signedF_over high low neg (.inr hl))
      go_enter Tryz.func73, Tryz.ntmps73
      go_wp2
      go_ret2
      exact ⟨by rw [hf.out]; exact ret_pair rfl rfl, rfl⟩
    · have hf := Lib.hid (signedF_ok high low neg (by omega))
      cases neg
      · go_enter Tryz.func73, Tryz.ntmps73
        go_wp2
        go_ret2
        exact ⟨by rw [hf.out]; exact ret_pair (by simp [sgn]; omega) rfl, rfl⟩
      · go_enter Tryz.func73, Tryz.ntmps73
        go_wp2
        go_ret2
        exact ⟨by rw [hf.out]; exact ret_pair (by simp [sgn]; omega) rfl, rfl⟩

/-! ### math/bits.Add64: an entry of the model -/
theorem add64 (x y c : Int) (hx : 0 ≤ x) (hy : 0 ≤ y) (hc0 : 0 ≤ c) (hc : c ≤ 1) (w : World) :
    (callFunc 71 #[.int .u64 x, .int .u64 y, .int .u64 c]).run Tryz.prog w =
      .ok (.value (.tuple #[.int .u64 ((x + y + c) % 18446744073709551616), .int .u64 ((x + y + c) / 18446744073709551616)])) w := by
  rw [run_callFunc_extern Tryz.func71 (by kernel_rfl) (by kernel_rfl) (by kernel_rfl) (e := add64Entry) (by kernel_rfl)]
  rw [run_add64 x y c (by omega) (by omega) (by omega) (by omega)]
  rfl
/-- two sizes of amounts -/
theorem add64_sizes (x y : Nat) (hx : x ≤ 4611686018427387904) (hy : y ≤ 4611686018427387904) (w : World) :
    (callFunc 71 #[.int .u64 (x : Int), .int .u64 (y : Int), .int .u64 0]).run Tryz.prog w =
      .ok (.value (.tuple #[.int .u64 ((x + y : Nat) : Int), .int .u64 0])) w := by
  rw [add64 x y 0 (by omega) (by omega) (by omega) (by omega)]
  have e1 : ((x : Int) + (y : Int) + 0) % 18446744073709551616 = ((x + y : Nat) : Int) := by omega
  have e2 : ((x : Int) + (y : Int) + 0) / 18446744073709551616 = 0 := by omega
  rw [e1, e2]
/-- one more -/
theorem add64_one (x : Nat) (hx : x < 18446744073709551616) (w : World) :
    (callFunc 71 #[.int .u64 (x : Int), .int .u64 1, .int .u64 0]).run Tryz.prog w =
      .ok (.value (.tuple #[.int .u64 (((x + 1) % 18446744073709551616 : Nat) : Int), .int .u64 (((x + 1) / 18446744073709551616 : Nat) : Int)])) w := by
  rw [add64 x 1 0 (by omega) (by omega) (by omega) (by omega)]
  have e1 : ((x : Int) + 1 + 0) % 18446744073709551616 = (((x + 1) % 18446744073709551616 : Nat) : Int) := by omega
  have e2 : ((x : Int) + 1 + 0) / 18446744073709551616 = (((x + 1) / 18446744073709551616 : Nat) : Int) := by omega
  rw [e1, e2]

theorem fits_i64 {x : Int} (h : fits x = true) : x.natAbs ≤ 4611686018427387904 := by rw [fits_abs] at h; simpa using h
theorem addF_no1 (a b : Int) (h : fits a = false) : addF a b = (0, 4) := by unfold addF; simp [h]
theorem addF_no2 (a b : Int) (h : fits b = false) : addF a b = (0, 4) := by unfold addF; simp [h]
theorem addF_same (a b : Int) (ha : fits a = true) (hb : fits b = true) (h : decide (a < 0) = decide (b < 0)) : addF a b = signedF 0 ((a.natAbs + b.natAbs : Nat) : Int) (decide (a < 0)) := by
  unfold addF signedF
  rw [ha, hb, add_sgn a b h, okv_sgn]
  simp only [Bool.and_self, if_true]
  by_cases hc : a.natAbs + b.natAbs ≤ 4611686018427387904
  · rw [if_pos hc, if_neg (by omega), Int.toNat_natCast]
  · rw [if_neg hc, if_pos (by omega)]
theorem addF_diff (a b : Int) (ha : fits a = true) (hb : fits b = true) (h : decide (a < 0) ≠ decide (b < 0)) : addF a b = (a + b, 0) := by
  have h1 := fits_i64 ha
  have h2 := fits_i64 hb
  have h3 : fits (a + b) = true := by
    rw [fits_abs, decide_eq_true_eq]
    by_cases ha0 : a < 0
    · have : ¬ b < 0 := fun hb0 => h (by simp [ha0, hb0])
      omega
    · have : b < 0 := by
        apply Classical.byContradiction
        intro hb0; exact h (by simp [ha0, hb0])
      omega
  unfold addF okv
  rw [ha, hb, h3]; simp

set_option maxHeartbeats 1000000 in
theorem add_calls (a b : Int) (w : World) (ha : I64 a) (hb : I64 b) :
    Calls Tryz.prog 30 #[.int .i64 a, .int .i64 b] w fun e w' =>
      e = .returned (.tuple #[.int .i64 (addF a b).1, .int .i64 (addF a b).2]) ∧ w = w' := by
  cases fa : fits a
  · have hf := Lib.hid (addF_no1 a b fa)
    go_enter Tryz.func30, Tryz.ntmps30
    go_wp2_with (go_at_call 45; refine (fits_calls _ _ (by assumption)).mono ?_; rintro e w' ⟨rfl, rfl⟩)
    go_ret2
    exact ⟨by rw [hf.out]; exact ret_pair rfl rfl, rfl⟩
  · cases fb : fits b
    · have hf := Lib.hid (addF_no2 a b fb)
      go_enter Tryz.func30, Tryz.ntmps30
      go_wp2_with (go_at_call 45; refine (fits_calls _ _ (by assumption)).mono ?_; rintro e w' ⟨rfl, rfl⟩)
      go_ret2
      exact ⟨by rw [hf.out]; exact ret_pair rfl rfl, rfl⟩
    · have h1 := fits_i64 fa
      have h2 := fits_i64 fb
      have h64 := add64_sizes a.natAbs b.natAbs h1 h2
      generalize hA : a.natAbs = A at h1 h64
      generalize hB : b.natAbs = B at h2 h64
      have S1 : ∀ W, Calls Tryz.prog 72 #[.int .i64 a] W fun e w' => e = .returned (.int .u64 (A : Int)) ∧ W = w' := fun W => by rw [← hA]; exact size_calls a W ha
      have S2 : ∀ W, Calls Tryz.prog 72 #[.int .i64 b] W fun e w' => e = .returned (.int .u64 (B : Int)) ∧ W = w' := fun W => by rw [← hB]; exact size_calls b W hb
      have hs := Lib.hid S1
      have hs2 := Lib.hid S2
      clear S1 S2
      have HA := Lib.hid hA
      have HB := Lib.hid hB
      clear hA hB
      by_cases ha0 : a < 0
      · by_cases hb0 : b < 0
        · skip
          have hf := Lib.hid (addF_same a b fa fb (by simp [ha0, hb0]))
          go_enter Tryz.func30, Tryz.ntmps30
          go_wp2_with (first | (go_at_call 45; refine (fits_calls _ _ (by assumption)).mono ?_; rintro e w' ⟨rfl, rfl⟩) | (go_at_call 72; refine (hs.out _).mono ?_; rintro e w' ⟨rfl, rfl⟩; clear hs) | (go_at_call 72; refine (hs2.out _).mono ?_; rintro e w' ⟨rfl, rfl⟩; clear hs2) | (go_at_call 73; refine (signed_calls _ _ _ _ (by omega) (by omega) (by omega)).mono ?_; rintro e w' ⟨rfl, rfl⟩))
          go_ret2
          refine ⟨?_, rfl⟩
          rw [hf.out, HA.out, HB.out]
          simp [ha0]
        · skip
          have hf := Lib.hid (addF_diff a b fa fb (by simp [ha0, hb0]))
          have hA' := HA.out
          have hB' := HB.out
          have b1 : a ≤ 4611686018427387904 := by omega
          have b2 : -4611686018427387904 ≤ a := by omega
          have b3 : b ≤ 4611686018427387904 := by omega
          have b4 : -4611686018427387904 ≤ b := by omega
          clear hA' hB'
          go_enter Tryz.func30, Tryz.ntmps30
          go_wp2_with (first | (go_at_call 45; refine (fits_calls _ _ (by assumption)).mono ?_; rintro e w' ⟨rfl, rfl⟩) | (go_at_call 72; refine (hs.out _).mono ?_; rintro e w' ⟨rfl, rfl⟩; clear hs) | (go_at_call 72; refine (hs2.out _).mono ?_; rintro e w' ⟨rfl, rfl⟩; clear hs2) | (go_at_call 73; refine (signed_calls _ _ _ _ (by omega) (by omega) (by omega)).mono ?_; rintro e w' ⟨rfl, rfl⟩))
          go_ret2
          exact ⟨by rw [hf.out]; exact ret_pair rfl rfl, rfl⟩
      · by_cases hb0 : b < 0
        · skip
          have hf := Lib.hid (addF_diff a b fa fb (by simp [ha0, hb0]))
          have hA' := HA.out
          have hB' := HB.out
          have b1 : a ≤ 4611686018427387904 := by omega
          have b2 : -4611686018427387904 ≤ a := by omega
          have b3 : b ≤ 4611686018427387904 := by omega
          have b4 : -4611686018427387904 ≤ b := by omega
          clear hA' hB'
          go_enter Tryz.func30, Tryz.ntmps30
          go_wp2_with (first | (go_at_call 45; refine (fits_calls _ _ (by assumption)).mono ?_; rintro e w' ⟨rfl, rfl⟩) | (go_at_call 72; refine (hs.out _).mono ?_; rintro e w' ⟨rfl, rfl⟩; clear hs) | (go_at_call 72; refine (hs2.out _).mono ?_; rintro e w' ⟨rfl, rfl⟩; clear hs2) | (go_at_call 73; refine (signed_calls _ _ _ _ (by omega) (by omega) (by omega)).mono ?_; rintro e w' ⟨rfl, rfl⟩))
          go_ret2
          exact ⟨by rw [hf.out]; exact ret_pair rfl rfl, rfl⟩
        · skip
          have hd : (decide (a < 0) == decide (b < 0)) = true := by simp [ha0, hb0]
          have hf := Lib.hid (addF_same a b fa fb (by simp [ha0, hb0]))
          go_enter Tryz.func30, Tryz.ntmps30
          go_wp2_with (first | (go_at_call 45; refine (fits_calls _ _ (by assumption)).mono ?_; rintro e w' ⟨rfl, rfl⟩) | (go_at_call 72; refine (hs.out _).mono ?_; rintro e w' ⟨rfl, rfl⟩; clear hs) | (go_at_call 72; refine (hs2.out _).mono ?_; rintro e w' ⟨rfl, rfl⟩; clear hs2) | (go_at_call 73; refine (signed_calls _ _ _ _ (by omega) (by omega) (by omega)).mono ?_; rintro e w' ⟨rfl, rfl⟩))
          go_ret2
          refine ⟨?_, rfl⟩
          rw [hf.out, HA.out, HB.out]
          have e0 : decide (a < 0) = false := by simp; omega
          rw [e0]; simp

theorem subF_add (a b : Int) : subF a b = addF a (-b) := by unfold subF addF; rw [fits_neg, Int.sub_eq_add_neg]
theorem subF_no (a b : Int) (h : fits b = false) : subF a b = (0, 4) := by unfold subF; simp [h]

theorem mulF_no1 (a b : Int) (h : fits a = false) : mulF a b = (0, 4) := by unfold mulF; simp [h]
theorem mulF_no2 (a b : Int) (h : fits b = false) : mulF a b = (0, 4) := by unfold mulF; simp [h]
theorem signedF_nat (p : Nat) (neg : Bool) : signedF ((p / 18446744073709551616 : Nat) : Int) ((p % 18446744073709551616 : Nat) : Int) neg = okv (sgn neg p) := by
  rw [okv_sgn]
  unfold signedF
  by_cases hc : p ≤ 4611686018427387904
  · rw [if_pos hc, if_neg (by omega), Int.toNat_natCast, Nat.mod_eq_of_lt (by omega)]
  · rw [if_neg hc, if_pos (by omega)]
theorem mulF_yes (a b : Int) (ha : fits a = true) (hb : fits b = true) :
    mulF a b = signedF ((a.natAbs * b.natAbs / 18446744073709551616 : Nat) : Int) ((a.natAbs * b.natAbs % 18446744073709551616 : Nat) : Int) (decide (a < 0) != decide (b < 0)) := by
  unfold mulF
  rw [ha, hb, signedF_nat, ← mul_sgn]; rfl

end Go.Proofs.YtmimhimlgbklpaaGreatDoor.FixpW
