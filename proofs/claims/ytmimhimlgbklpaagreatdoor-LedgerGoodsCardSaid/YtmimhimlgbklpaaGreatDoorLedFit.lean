/- What Pay answers can be handed on. -/
import Derived.Test.YtmimhimlgbklpaaGreatDoorLedB
set_option linter.unusedSimpArgs false
set_option linter.unusedVariables false
namespace Go.Proofs.YtmimhimlgbklpaaGreatDoor.LedW
open Go.RowKit Go.Proofs.YtmimhimlgbklpaaGreatDoor.Bas Go.Proofs.YtmimhimlgbklpaaGreatDoor.LedM Go.Proofs.YtmimhimlgbklpaaGreatDoor.FixpM

theorem fit_zero : LedFit zeroLed := by
  refine ⟨by decide, ⟨by decide, by decide⟩, ?_, ?_, ?_, ?_, ?_, ?_, ?_, ?_⟩ <;> (intro x hx; simp [zeroLed] at hx)
theorem pay_fit {l l' : Led} {cur amount fr to_ er : Int} (hf : LedFit l) (h : payF l cur amount fr to_ = (l', er)) : LedFit l' := by
  rcases payF_paid h with ⟨_, rfl⟩ | ⟨_, _, _, _, x1, y1, P⟩
  · exact fit_zero
  · rw [P.l']
    exact (hf.set (FixpW.i64_of_fits P.fx)).set (FixpW.i64_of_fits P.fy)
end Go.Proofs.YtmimhimlgbklpaaGreatDoor.LedW
