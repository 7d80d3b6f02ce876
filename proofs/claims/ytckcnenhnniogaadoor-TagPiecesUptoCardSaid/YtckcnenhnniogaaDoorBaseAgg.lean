/- An argument that is a struct. -/
import Derived.Test.YtckcnenhnniogaaDoorBase
set_option linter.unusedSimpArgs false
set_option linter.unusedVariables false
namespace Go.Proofs.YtckcnenhnniogaaDoor.Bas
open Go.ChangeShapes Go.WideShapes Go.ChangeAt Go.RowKit
section
variable {P : Program} {H : Type} {enc : TypeId × Value → H}
/-- an argument that is a struct, by value: its fields of one cell -/
theorem open_agg {W : World} {fs : Array Field} {t : TypeId} {base : Nat} {v : Value} {d : DataW H} {p : List MemPlace} (ht : P.underlying t = some (.struct fs))
    (hv : Value.okWide P W .any base t v) (h : DataW.Trod enc P W 0 (fun _ => true) true t v d p) :
    ∃ L : List Value, v = .agg L.toArray ∧ L.length = P.cellsOf t ∧
      (∀ (i : Nat) (f : Field) (k : IntKind), fs[i]? = some f → P.cellsOf f.type = 1 → P.underlying f.type = some (.int k) → ∃ z, L[f.offset]? = some (.int k z) ∧ (Lit.int k z).wf = true) ∧
      (∀ (i : Nat) (f : Field), fs[i]? = some f → P.cellsOf f.type = 1 → P.underlying f.type = some .bool → ∃ b, L[f.offset]? = some (.bool b)) := by
  obtain ⟨cs, rfl, hsz⟩ := okWide_struct ht hv
  obtain ⟨fuel, hf⟩ := h
  obtain ⟨xs, m, _, _, hl, hlen, hg⟩ := DataW.trod_struct ht hf
  obtain ⟨L⟩ := cs
  simp only [Value.cells] at hg hl
  have one : ∀ (o : Nat) (x : Value), (L.drop o).take 1 = [x] → L[o]? = some x := by
    intro o x h
    have := congrArg (fun l => l[0]?) h
    simpa [List.getElem?_take, List.getElem?_drop] using this
  refine ⟨L, rfl, hl, ?_, ?_⟩
  · intro i f k hfi hc hu
    have h1 := hg i f hfi
    have hi : i < xs.length := by rw [hlen]; exact (Array.getElem?_eq_some_iff.1 hfi).1
    rw [List.getElem?_eq_getElem hi] at h1
    obtain ⟨z, hz, _, hw⟩ := DataW.trod_int hu h1
    rw [hc] at hz
    exact ⟨z, one _ _ hz, hw⟩
  · intro i f hfi hc hu
    have h1 := hg i f hfi
    have hi : i < xs.length := by rw [hlen]; exact (Array.getElem?_eq_some_iff.1 hfi).1
    rw [List.getElem?_eq_getElem hi] at h1
    obtain ⟨b, hb, _⟩ := DataW.trod_bool hu h1
    rw [hc] at hb
    exact ⟨b, one _ _ hb⟩
end
end Go.Proofs.YtckcnenhnniogaaDoor.Bas
