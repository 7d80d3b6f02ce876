/- A table that stands anywhere on the list of what is laid. No program in sight. -/
import Derived.Test.YtckcnenhnniogaaDoorBase
set_option linter.unusedSimpArgs false
set_option linter.unusedVariables false
namespace Go.Proofs.YtckcnenhnniogaaDoor.Bas
open Go.RowKit

theorem laid_vars {P : Program} {W : World} {l : List (String × DataW Unit)} (h : laidMet P l W) : ∃ ps, DataW.LaidVars P W l ps := by
  obtain ⟨ps, h, _⟩ := h
  exact ⟨ps, h⟩
theorem laid_tail {P : Program} {W : World} {x : String × DataW Unit} {l : List (String × DataW Unit)} (h : ∃ ps, DataW.LaidVars P W (x :: l) ps) : ∃ ps, DataW.LaidVars P W l ps := by
  obtain ⟨ps, g', t', cs, fuel, p, q, hg', ht', hvar, hd, hr, _⟩ := h
  first | exact ⟨_, hr⟩ | exact ⟨_, by assumption⟩
theorem tab_of_vars {P : Program} {W : World} {name : String} {k : IntKind} {zs : List Int} {rest : List (String × DataW Unit)} {g : Nat} {t e : TypeId} {n : Nat}
    (hg : P.globalNamed name = some g) (hty : (P.globals[g]?).map (·.type) = some t) (ht : P.underlying t = some (.array n e)) (he : P.underlying e = some (.int k)) (hce : P.cellsOf e = 1) (hct : P.cellsOf t = n)
    (h : ∃ ps, DataW.LaidVars P W ((name, Lib.tabData k zs) :: rest) ps) : ∀ i, i < zs.length → W.cell? ⟨g, i, none⟩ = some (.int k (zs.getD i 0)) := by
  obtain ⟨ps, g', t', cs, fuel, p, q, hg', ht', hvar, hd, _, _⟩ := h
  obtain rfl := Option.some.inj (hg.symm.trans hg')
  obtain rfl := Option.some.inj (hty.symm.trans ht')
  have t : Lib.TabIs P W name k zs := by
    unfold Lib.TabIs
    rw [hvar, ← Lib.cells_of_tab ht he hce hct hd]
  exact fun i hi => t.cell hg i hi
end Go.Proofs.YtckcnenhnniogaaDoor.Bas
