/- The document's own MulDiv is FixpM's. -/
import Derived.Test.YtocjfjikkdpfdaaGreatDoorFixpDoc
set_option linter.unusedSimpArgs false
set_option linter.unusedVariables false
namespace Go.Proofs.YtocjfjikkdpfdaaGreatDoor.FixpR
open Go.RowKit Go.Proofs.YtocjfjikkdpfdaaGreatDoor.Bas Go.Proofs.YtocjfjikkdpfdaaGreatDoor.FixpM Go.Proofs.YtocjfjikkdpfdaaGreatDoor.FixpW

theorem wide_one (W : Nat) : (loN W + 1) % 18446744073709551616 = loN (W + 1) ∧ (loN (W + 1) = 0 → hiN W + 1 = hiN (W + 1)) ∧ (loN (W + 1) ≠ 0 → hiN W = hiN (W + 1)) := by
  unfold hiN loN; omega

end Go.Proofs.YtocjfjikkdpfdaaGreatDoor.FixpR
