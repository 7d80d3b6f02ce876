/- The document's own answers of layer 1: Fits, Add, Sub, Mul, MulDiv are FixpM's. -/
import Derived.Test.YtocjfjikkdpfdaaGreatDoorFixpOver
import Derived.Deep.DeepCutAuto
import Derived.Deep.CutBlock
set_option linter.unusedSimpArgs false
set_option linter.unusedVariables false
namespace Go.Proofs.YtocjfjikkdpfdaaGreatDoor.FixpR
open Go.RowKit Go.Proofs.YtocjfjikkdpfdaaGreatDoor.Bas Go.Proofs.YtocjfjikkdpfdaaGreatDoor.FixpM Go.Proofs.YtocjfjikkdpfdaaGreatDoor.FixpW

theorem rfits_calls (x : Int) (w : World) :
    Calls Tryz.prog 55 #[.int .i64 x] w fun e w' => e = .returned (.bool (fits x)) ∧ w = w' := by
  by_cases h1 : x ≤ 4611686018427387904
  · by_cases h2 : (-4611686018427387904 : Int) ≤ x
    · go_enter Tryz.func55, Tryz.ntmps55
      go_wp2_with fail
      go_ret
      exact ⟨ret_bool (by simp [fits, h1, h2]), rfl⟩
    · go_enter Tryz.func55, Tryz.ntmps55
      go_wp2_with fail
      go_ret
      exact ⟨ret_bool (by simp only [fits]; rw [Bool.eq_iff_iff]; simp; omega), rfl⟩
  · go_enter Tryz.func55, Tryz.ntmps55
    go_wp2_with fail
    go_ret
    exact ⟨ret_bool (by simp [fits, h1]), rfl⟩

theorem natAbs_lt {x : Int} (h : fits x = true) : x.natAbs < 9223372036854775808 := by have := fits_i64 h; omega
theorem prod_lt (a b : Nat) (ha : a ≤ 4611686018427387904) (hb : b ≤ 4611686018427387904) : a * b ≤ 21267647932558653966460912964485513216 := by
  have := Nat.mul_le_mul ha hb
  omega

end Go.Proofs.YtocjfjikkdpfdaaGreatDoor.FixpR
