/- An argument that is a struct: its fields of one cell, each read by its own type. -/
import Derived.Test.YtckcnenhnniogaaDoorBase
set_option linter.unusedSimpArgs false
set_option linter.unusedVariables false
namespace Go.Proofs.YtckcnenhnniogaaDoor.Bas
open Go.ChangeShapes Go.WideShapes Go.ChangeAt Go.RowKit
section
variable {P : Program} {H : Type} {enc : TypeId × Value → H}
theorem open_fields {W : World} {fs : Array Field} {t : TypeId} {base : Nat} {v : Value} {d : DataW H} {p : List MemPlace} (ht : P.underlying t = some (.struct fs))
    (hv : Value.okWide P W .any base t v) (h : DataW.Trod enc P W 0 (fun _ => true) true t v d p) :
    ∃ (L : List Value) (ds : List (DataW H)), v = .agg L.toArray ∧ L.length = P.cellsOf t ∧ d = .agg ds ∧ ds.length = fs.size ∧
      ∀ (i : Nat) (f : Field), fs[i]? = some f → P.cellsOf f.type = 1 → ∃ (x : Value) (y : DataW H × List MemPlace) (m : Nat), L[f.offset]? = some x ∧ ds[i]? = some y.1 ∧ DataW.trod enc P W 0 (fun _ => true) true m f.type [x] = some y := by
  obtain ⟨cs, rfl, hsz⟩ := okWide_struct ht hv
  obtain ⟨fuel, hf⟩ := h
  obtain ⟨xs, m, _, hx, hl, hlen, hg⟩ := DataW.trod_struct ht hf
  obtain ⟨L⟩ := cs
  simp only [Value.cells] at hg hl
  have hd : d = .agg (xs.map (·.1)) := by
    have := congrArg Prod.fst hx
    simpa using this
  refine ⟨L, xs.map (·.1), rfl, hl, hd, by simpa using hlen, ?_⟩
  intro i f hfi hc
  have h1 := hg i f hfi
  have hi : i < xs.length := by rw [hlen]; exact (Array.getElem?_eq_some_iff.1 hfi).1
  rw [List.getElem?_eq_getElem hi, hc] at h1
  have hne : L[f.offset]? ≠ none := by
    intro hn
    rw [List.getElem?_eq_none_iff] at hn
    rw [List.drop_of_length_le hn] at h1
    cases m with
    | zero => simp [DataW.trod] at h1
    | succ n =>
      unfold DataW.trod at h1
      simp only [List.take_nil] at h1
      split at h1 <;> simp_all
  obtain ⟨x, hx⟩ := Option.ne_none_iff_exists'.1 hne
  have e : (L.drop f.offset).take 1 = [x] := by
    obtain ⟨hlt, he⟩ := List.getElem?_eq_some_iff.1 hx
    rw [List.drop_eq_getElem_cons hlt, he]; rfl
  rw [e] at h1
  exact ⟨x, xs[i], m, hx, by simp [hi], h1⟩
end
end Go.Proofs.YtckcnenhnniogaaDoor.Bas
