/- The document's own answers of layer 1: Fits, Add, Sub, Mul, MulDiv are FixpM's. -/
import Derived.Test.YtghcbkkabhlchaaDoorFixpOver
import Derived.Deep.DeepCutAuto
import Derived.Deep.CutBlock
namespace Go.Proofs.YtghcbkkabhlchaaDoor.FixpR
open Go.RowKit Go.Proofs.YtghcbkkabhlchaaDoor.Bas Go.Proofs.YtghcbkkabhlchaaDoor.FixpM Go.Proofs.YtghcbkkabhlchaaDoor.FixpW

set_option maxHeartbeats 400000 in
theorem rabs_calls (x : Int) (w : World) (h : I64 x) :
    Calls Tryd.prog 33 #[.int .i64 x] w fun e w' => e = .returned (.int .u64 (x.natAbs : Int)) ∧ w = w' := by
  obtain ⟨h1, h2⟩ := h
  by_cases hx : x < 0
  · go_enter Tryd.func33, Tryd.ntmps33
    go_wp2
    go_ret
    refine ⟨ret_u64 ?_, rfl⟩
    simp only [IntKind.wrap_u64, wrap64]
    omega
  · go_enter Tryd.func33, Tryd.ntmps33
    go_wp2
    go_ret
    refine ⟨ret_u64 ?_, rfl⟩
    omega

theorem rfits_calls (x : Int) (w : World) :
    Calls Tryd.prog 30 #[.int .i64 x] w fun e w' => e = .returned (.bool (fits x)) ∧ w = w' := by
  by_cases h1 : x ≤ 4611686018427387904
  · by_cases h2 : (-4611686018427387904 : Int) ≤ x
    · go_enter Tryd.func30, Tryd.ntmps30
      go_wp2_with fail
      go_ret
      exact ⟨ret_bool (by simp [fits, h1, h2]), rfl⟩
    · go_enter Tryd.func30, Tryd.ntmps30
      go_wp2_with fail
      go_ret
      exact ⟨ret_bool (by simp only [fits]; rw [Bool.eq_iff_iff]; simp; omega), rfl⟩
  · go_enter Tryd.func30, Tryd.ntmps30
    go_wp2_with fail
    go_ret
    exact ⟨ret_bool (by simp [fits, h1]), rfl⟩

theorem natAbs_lt {x : Int} (h : fits x = true) : x.natAbs < 9223372036854775808 := by have := fits_i64 h; omega
theorem prod_lt (a b : Nat) (ha : a ≤ 4611686018427387904) (hb : b ≤ 4611686018427387904) : a * b ≤ 21267647932558653966460912964485513216 := by
  have := Nat.mul_le_mul ha hb
  omega

end Go.Proofs.YtghcbkkabhlchaaDoor.FixpR
