/- Sub's walk, of layer 1. -/
import Derived.Test.YtocjfjikkdpfdaaDoorFixpWalks
set_option linter.unusedSimpArgs false
set_option linter.unusedVariables false
namespace Go.Proofs.YtocjfjikkdpfdaaDoor.FixpW
open Go.RowKit Go.Proofs.YtocjfjikkdpfdaaDoor.Bas Go.Proofs.YtocjfjikkdpfdaaDoor.FixpM
end Go.Proofs.YtocjfjikkdpfdaaDoor.FixpW
