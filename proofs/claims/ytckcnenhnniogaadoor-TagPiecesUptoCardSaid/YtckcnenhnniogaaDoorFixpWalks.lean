/- The walks of layer 1: each call answers what FixpM says. -/
import Derived.Test.YtckcnenhnniogaaDoorBase
import Derived.Test.YtckcnenhnniogaaDoorFixpMath
import Derived.Test.YtckcnenhnniogaaDoorShelf
import Derived.Test.YtckcnenhnniogaaDoorRows
import Derived.WalkSpells
import Derived.WalkLawsBesides
import Derived.Laws.BitsAllLaws
import Derived.Laws.Externs
set_option linter.unusedSimpArgs false
set_option linter.unusedVariables false
namespace Go.Proofs.YtckcnenhnniogaaDoor.FixpW
open Go.RowKit Go.Proofs.YtckcnenhnniogaaDoor.Bas Go.Proofs.YtckcnenhnniogaaDoor.FixpM

theorem ret_u64 {a b : Int} (h : a = b) : Ending.returned (.int .u64 a) = .returned (.int .u64 b) := by rw [h]
theorem ret_i64 {a b : Int} (h : a = b) : Ending.returned (.int .i64 a) = .returned (.int .i64 b) := by rw [h]
theorem ret_bool {a b : Bool} (h : a = b) : Ending.returned (.bool a) = .returned (.bool b) := by rw [h]
theorem ret_pair {a b c d : Int} (h : a = c) (h2 : b = d) : Ending.returned (.tuple #[.int .i64 a, .int .i64 b]) = .returned (.tuple #[.int .i64 c, .int .i64 d]) := by rw [h, h2]

/-- an int of 64 bits -/
def I64 (x : Int) : Prop := -9223372036854775808 ≤ x ∧ x ≤ 9223372036854775807
/-- nought and ErrOver, or an amount and OK -/
def Two (p : Int × Int) : Prop := p = (0, 4) ∨ (p.2 = 0 ∧ fits p.1 = true)
theorem two_okv (x : Int) : Two (okv x) := by
  unfold Two okv
  cases h : fits x
  · exact .inl rfl
  · exact .inr ⟨rfl, h⟩
theorem two_addF (a b : Int) : Two (addF a b) := by
  unfold addF; split
  · exact two_okv _
  · exact .inl rfl
theorem two_subF (a b : Int) : Two (subF a b) := by
  unfold subF; split
  · exact two_okv _
  · exact .inl rfl
theorem two_mulF (a b : Int) : Two (mulF a b) := by
  unfold mulF; split
  · exact two_okv _
  · exact .inl rfl
theorem i64_of_fits {x : Int} (h : fits x = true) : I64 x := by rw [fits_iff] at h; unfold I64; omega
theorem two_mulDivF (a b c m : Int) : mulDivF a b c m = (0, 1) ∨ Two (mulDivF a b c m) := by
  unfold mulDivF; split
  · split
    · exact .inl rfl
    · exact .inr (two_okv _)
  · exact .inr (.inl rfl)

/-- what 'signed' answers -/
def signedF (high low : Int) (neg : Bool) : Int × Int := if high > 0 ∨ low > 4611686018427387904 then (0, 4) else (sgn neg low.toNat, 0)
theorem signedF_over (high low : Int) (neg : Bool) (h : high > 0 ∨ low > 4611686018427387904) : signedF high low neg = (0, 4) := by unfold signedF; rw [if_pos h]
theorem signedF_ok (high low : Int) (neg : Bool) (h : ¬ (high > 0 ∨ low > 4611686018427387904)) : signedF high low neg = (sgn neg low.toNat, 0) := by unfold signedF; rw [if_neg h]

/-! ### math/bits.Add64: an entry of the model -/
theorem fits_i64 {x : Int} (h : fits x = true) : x.natAbs ≤ 4611686018427387904 := by rw [fits_abs] at h; simpa using h
theorem addF_no1 (a b : Int) (h : fits a = false) : addF a b = (0, 4) := by unfold addF; simp [h]
theorem addF_no2 (a b : Int) (h : fits b = false) : addF a b = (0, 4) := by unfold addF; simp [h]
theorem addF_same (a b : Int) (ha : fits a = true) (hb : fits b = true) (h : decide (a < 0) = decide (b < 0)) : addF a b = signedF 0 ((a.natAbs + b.natAbs : Nat) : Int) (decide (a < 0)) := by
  unfold addF signedF
  rw [ha, hb, add_sgn a b h, okv_sgn]
  simp only [Bool.and_self, if_true]
  by_cases hc : a.natAbs + b.natAbs ≤ 4611686018427387904
  · rw [if_pos hc, if_neg (by omega), Int.toNat_natCast]
  · rw [if_neg hc, if_pos (by omega)]
theorem addF_diff (a b : Int) (ha : fits a = true) (hb : fits b = true) (h : decide (a < 0) ≠ decide (b < 0)) : addF a b = (a + b, 0) := by
  have h1 := fits_i64 ha
  have h2 := fits_i64 hb
  have h3 : fits (a + b) = true := by
    rw [fits_abs, decide_eq_true_eq]
    by_cases ha0 : a < 0
    · have : ¬ b < 0 := fun hb0 => h (by simp [ha0, hb0])
      omega
    · have : b < 0 := by
        apply Classical.byContradiction
        intro hb0; exact h (by simp [ha0, hb0])
      omega
  unfold addF okv
  rw [ha, hb, h3]; simp

theorem subF_add (a b : Int) : subF a b = addF a (-b) := by unfold subF addF; rw [fits_neg, Int.sub_eq_add_neg]
theorem subF_no (a b : Int) (h : fits b = false) : subF a b = (0, 4) := by unfold subF; simp [h]

theorem mulF_no1 (a b : Int) (h : fits a = false) : mulF a b = (0, 4) := by unfold mulF; simp [h]
theorem mulF_no2 (a b : Int) (h : fits b = false) : mulF a b = (0, 4) := by unfold mulF; simp [h]
theorem signedF_nat (p : Nat) (neg : Bool) : signedF ((p / 18446744073709551616 : Nat) : Int) ((p % 18446744073709551616 : Nat) : Int) neg = okv (sgn neg p) := by
  rw [okv_sgn]
  unfold signedF
  by_cases hc : p ≤ 4611686018427387904
  · rw [if_pos hc, if_neg (by omega), Int.toNat_natCast, Nat.mod_eq_of_lt (by omega)]
  · rw [if_neg hc, if_pos (by omega)]
theorem mulF_yes (a b : Int) (ha : fits a = true) (hb : fits b = true) :
    mulF a b = signedF ((a.natAbs * b.natAbs / 18446744073709551616 : Nat) : Int) ((a.natAbs * b.natAbs % 18446744073709551616 : Nat) : Int) (decide (a < 0) != decide (b < 0)) := by
  unfold mulF
  rw [ha, hb, signedF_nat, ← mul_sgn]; rfl

end Go.Proofs.YtckcnenhnniogaaDoor.FixpW
