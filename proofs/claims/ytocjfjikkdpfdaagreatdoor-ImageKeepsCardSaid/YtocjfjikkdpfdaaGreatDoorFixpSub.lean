/- Sub's walk, of layer 1. -/
import Derived.Test.YtocjfjikkdpfdaaGreatDoorFixpWalks
set_option linter.unusedSimpArgs false
set_option linter.unusedVariables false
namespace Go.Proofs.YtocjfjikkdpfdaaGreatDoor.FixpW
open Go.RowKit Go.Proofs.YtocjfjikkdpfdaaGreatDoor.Bas Go.Proofs.YtocjfjikkdpfdaaGreatDoor.FixpM
end Go.Proofs.YtocjfjikkdpfdaaGreatDoor.FixpW
