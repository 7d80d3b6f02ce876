/- Sub's walk, of layer 1. -/
import Derived.Test.YtmimhimlgbklpaaGreatDoorFixpWalks
set_option linter.unusedSimpArgs false
set_option linter.unusedVariables false
namespace Go.Proofs.YtmimhimlgbklpaaGreatDoor.FixpW
open Go.RowKit Go.Proofs.YtmimhimlgbklpaaGreatDoor.Bas Go.Proofs.YtmimhimlgbklpaaGreatDoor.FixpM
set_option maxHeartbeats 400000 in
theorem sub_calls (a b : Int) (w : World) (ha : I64 a) (hb : I64 b) :
    Calls Tryz.prog 29 #[.int .i64 a, .int .i64 b] w fun e w' =>
      e = .returned (.tuple #[.int .i64 (subF a b).1, .int .i64 (subF a b).2]) ∧ w = w' := by
  cases fb : fits b
  · have hf := Lib.hid (subF_no a b fb)
    go_enter Tryz.func29, Tryz.ntmps29
    go_wp2_with (go_at_call 45; refine (fits_calls _ _ (by assumption)).mono ?_; rintro e w' ⟨rfl, rfl⟩)
    go_ret2
    exact ⟨by rw [hf.out]; exact ret_pair rfl rfl, rfl⟩
  · have h2 := fits_i64 fb
    have b3 : b ≤ 4611686018427387904 := by omega
    have b4 : -4611686018427387904 ≤ b := by omega
    have hn : I64 (-b) := ⟨by omega, by omega⟩
    have hf := Lib.hid (subF_add a b)
    go_enter Tryz.func29, Tryz.ntmps29
    go_wp2_with (first | (go_at_call 45; refine (fits_calls _ _ (by assumption)).mono ?_; rintro e w' ⟨rfl, rfl⟩) | (go_at_call 30; refine (add_calls _ _ _ (by assumption) (by assumption)).mono ?_; rintro e w' ⟨rfl, rfl⟩))
    go_ret2
    exact ⟨by rw [hf.out]; exact ret_pair rfl rfl, rfl⟩
end Go.Proofs.YtmimhimlgbklpaaGreatDoor.FixpW
