/- What the laws of layer 1 ask first. -/
import Derived.Test.YtihjphfdgimmbaaFixpDocDiv
import Derived.Test.YtihjphfdgimmbaaFixpSum
namespace Go.Proofs.Ytihjphfdgimmbaa.FixpW
open Go.RowKit Go.Proofs.Ytihjphfdgimmbaa.Bas Go.Proofs.Ytihjphfdgimmbaa.FixpM Go.ChangeShapes Go.WideShapes Go.ChangeAt

theorem wakes_calls (w : World) : Calls Try.prog 9 #[] w fun e w' => e = .returned (.bool true) ∧ ∃ n, w.drewN n = w' := by
  have C1 := fun W => muldiv_calls (-7) 3 2 0 W (by unfold I64; decide) (by unfold I64; decide) (by unfold I64; decide)
  have C2 := fun W => add_calls 4611686018427387904 1 W (by unfold I64; decide) (by unfold I64; decide)
  rw [show mulDivF (-7) 3 2 0 = (-11, 0) by decide] at C1
  rw [show addF 4611686018427387904 1 = (0, 4) by decide] at C2
  have D1 := Lib.hid C1
  have D2 := Lib.hid C2
  clear C1 C2
  go_enter Try.func9, Try.ntmps9
  go_wp2_with (first | (go_at_call 10; refine (D1.out _).mono ?_; rintro e w' ⟨rfl, n, rfl⟩; clear D1) | (go_at_call 12; refine (D2.out _).mono ?_; rintro e w' ⟨rfl, rfl⟩))
  go_ret
  exact ⟨rfl, n, rfl⟩

theorem i64_wf {x : Int} (h : (Lit.int .i64 x).wf = true) : I64 x := by
  simpa [Lit.wf, IntKind.min, IntKind.max, IntKind.signed, IntKind.bits, I64] using h
theorem cells64 : Try.prog.cellsOf 3 = 1 := by kernel_rfl
end Go.Proofs.Ytihjphfdgimmbaa.FixpW
