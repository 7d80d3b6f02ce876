/- An argument that is a slice of whatever elements: its rows of cells; what the form's reach says of their data. No program in sight. -/
import Derived.Test.YtckcnenhnniogaaDoorBase
import Derived.Deep.Slices
import Derived.Deep.Fields
set_option linter.unusedSimpArgs false
set_option linter.unusedVariables false
namespace Go.Proofs.YtckcnenhnniogaaDoor.Bas
open Go.ChangeShapes Go.WideShapes Go.ChangeAt Go.RowKit
section
variable {P : Program} {H : Type} {enc : TypeId × Value → H}

theorem flat_get {α : Type} {k : Nat} : ∀ (rows : List (List α)) (_ : ∀ r ∈ rows, r.length = k) (j : Nat) (u : α), rows.flatten[j]? = some u → ∃ i c r, rows[i]? = some r ∧ r[c]? = some u ∧ j = i * k + c ∧ c < k
  | [], _, j, u, h => by simp at h
  | r :: rows, hl, j, u, h => by
    have hr := hl r List.mem_cons_self
    rw [List.flatten_cons] at h
    by_cases hj : j < k
    · rw [List.getElem?_append_left (by omega)] at h
      exact ⟨0, j, r, rfl, h, by simp, hj⟩
    · rw [List.getElem?_append_right (by omega), hr] at h
      obtain ⟨i, c, r', h1, h2, h3, h4⟩ := flat_get rows (fun r h => hl r (List.mem_cons_of_mem _ h)) (j - k) u h
      exact ⟨i + 1, c, r', by simpa using h1, h2, by rw [Nat.succ_mul]; omega, h4⟩

/-- an argument that is a slice: its rows, each read as an element -/
theorem open_rows {W : World} {t e : TypeId} {base : Nat} {v : Value} {d : DataW H} {p : List MemPlace} (ht : P.underlying t = some (.slice e))
    (hv : Value.okWide P W .any base t v) (h : DataW.Trod enc P W 0 (fun _ => true) true t v d p) :
    ∃ (a : Option Addr) (rows : List (List Value)) (cap : Nat), v = .slice a rows.length cap ∧ (∀ r ∈ rows, r.length = P.cellsOf e) ∧ At W a rows.flatten ∧ rows.length ≤ cap ∧ cap ≤ maxLen ∧
      ((d = .nil ∧ cap = 0 ∧ rows = [] ∧ a = none) ∨ ∃ es sp, d = .slice es sp ∧ es.length = rows.length ∧ es.length + sp.length = cap ∧ ∀ (i : Nat) r, rows[i]? = some r → ∃ m y, DataW.trod enc P W 0 (fun _ => true) true m e r = some y ∧ es[i]? = some y.1) := by
  obtain ⟨a, len, cap, rfl⟩ := okWide_slice ht hv
  obtain ⟨fuel, hf⟩ := h
  rcases Go.Deep.open_slice ht hf with ⟨hcs, hx⟩ | ⟨x, l, c, m, n, D, Pl, hcs, _, hl, hm, hmm, hx, hi⟩
  · simp [Value.cells] at hcs
    obtain ⟨rfl, rfl, rfl⟩ := hcs
    simp only [Prod.mk.injEq] at hx
    exact ⟨none, [], 0, rfl, by simp, At.nil _ _, Nat.le_refl _, by simp [maxLen], .inl ⟨hx.1, rfl, rfl, rfl⟩⟩
  · simp [Value.cells] at hcs
    obtain ⟨rfl, rfl, rfl⟩ := hcs
    simp only [if_true] at hmm
    simp only [Prod.mk.injEq] at hx
    have hrow : ∀ i, ∃ cs', i < len → W.cells? 0 (x.add (i * P.cellsOf e)) (P.cellsOf e) = some cs' ∧ DataW.trod enc P W 0 (fun _ => true) true n e cs' = some (D i, Pl i) := fun i => by
      by_cases hil : i < len
      · obtain ⟨cs', h1, h2⟩ := hi i (by omega)
        exact ⟨cs', fun _ => ⟨h1, h2⟩⟩
      · exact ⟨[], fun h => absurd h hil⟩
    obtain ⟨R, hR⟩ := Classical.axiomOfChoice hrow
    have hlen : ((List.range len).map R).length = len := by simp
    have hget : ∀ (i : Nat) r, ((List.range len).map R)[i]? = some r → i < len ∧ r = R i := fun i r h => by
      rw [List.getElem?_map] at h
      by_cases hil : i < len
      · rw [List.getElem?_range hil] at h
        exact ⟨hil, by simpa using h.symm⟩
      · rw [List.getElem?_eq_none (by simp; omega)] at h; cases h
    have hcl : ∀ r ∈ (List.range len).map R, r.length = P.cellsOf e := fun r hr => by
      obtain ⟨i, hi', rfl⟩ := List.mem_map.1 hr
      obtain ⟨_, hcl, _⟩ := World.cells?_some (hR i (by simpa using hi')).1
      exact hcl
    refine ⟨some x, (List.range len).map R, cap, by rw [hlen], hcl, ?_, by rw [hlen]; exact hl, hm, .inr ⟨_, _, hx.1, by simp, by simp; omega, fun i r hr => ?_⟩⟩
    · intro j u hj
      obtain ⟨i, c, r, h1, h2, h3, h4⟩ := flat_get _ hcl j u hj
      obtain ⟨hil, rfl⟩ := hget i r h1
      obtain ⟨_, hcl', hat⟩ := World.cells?_some (hR i hil).1
      have hc0 := hat c h4
      rw [h2] at hc0
      have hspot : x.spot = none := by
        obtain ⟨_, hcl0, hat0⟩ := World.cells?_some (hR 0 (by omega)).1
        have hz := hat0 0 (by omega)
        rw [List.getElem?_eq_getElem (by omega)] at hz
        have := World.cell?_spot hz
        simpa [Addr.add] using this
      obtain ⟨b, off, spot⟩ := x
      simp only at hspot
      subst hspot
      refine ⟨b, off, rfl, ?_⟩
      have e1 : (((⟨b, off, none⟩ : Addr).add (i * P.cellsOf e)).add c) = ⟨b, off + j, none⟩ := by
        unfold Addr.add
        by_cases h0 : i * P.cellsOf e = 0
        · rw [if_pos h0]
          by_cases h9 : c = 0
          · rw [if_pos h9, show j = 0 by omega]; rfl
          · rw [if_neg h9]
            rw [show j = c by omega]
        · rw [if_neg h0]
          by_cases h9 : c = 0
          · rw [if_pos h9, show j = i * P.cellsOf e by omega]
          · rw [if_neg h9, h3, Nat.add_assoc]
      rw [← e1]; exact hc0
    · obtain ⟨hil, rfl⟩ := hget i r hr
      exact ⟨n, _, (hR i hil).2, by simp [hil]⟩

/-- what is in an element's datum is in the slice's -/
theorem weights_all {e : TypeId} : ∀ {es : List (DataW H)} {i : Nat} {d : DataW H}, es[i]? = some d → ∀ x ∈ d.weights P e, x ∈ DataW.weightsAll P e es
  | [], _, _, h => by simp at h
  | d0 :: r, 0, d, h => fun x hx => by
    simp at h
    subst h
    simp [DataW.weightsAll, hx]
  | d0 :: r, i + 1, d, h => fun x hx => by
    have := weights_all (i := i) (by simpa using h) x hx
    simp [DataW.weightsAll, this]
theorem weights_each : ∀ {ts : List TypeId} {ds : List (DataW H)} {i : Nat} {t : TypeId} {d : DataW H}, ts[i]? = some t → ds[i]? = some d → ∀ x ∈ d.weights P t, x ∈ DataW.weightsEach P ts ds
  | [], _, _, _, _, h, _ => by simp at h
  | _ :: _, [], _, _, _, _, h => by simp at h
  | t0 :: ts, d0 :: ds, 0, t, d, h, h2 => fun x hx => by
    simp at h h2
    subst h h2
    simp [DataW.weightsEach, hx]
  | t0 :: ts, d0 :: ds, i + 1, t, d, h, h2 => fun x hx => by
    have := weights_each (i := i) (by simpa using h) (by simpa using h2) x hx
    simp [DataW.weightsEach, this]
theorem reach_elem {t e : TypeId} {es sp : List (DataW H)} (ht : P.underlying t = some (.slice e)) (hr : ∀ x ∈ (DataW.slice es sp).weights P t, x ≤ reachBytes) {i : Nat} {d : DataW H} (hd : es[i]? = some d) : ∀ x ∈ d.weights P e, x ≤ reachBytes := fun x hx =>
  hr x (by simp [DataW.weights, ht]; exact .inr (.inl (weights_all hd x hx)))
theorem reach_field {t : TypeId} {fs : Array Field} {ds : List (DataW H)} (ht : P.underlying t = some (.struct fs)) (hr : ∀ x ∈ (DataW.agg ds).weights P t, x ≤ reachBytes) {i : Nat} {f : Field} {d : DataW H} (hf : fs[i]? = some f) (hd : ds[i]? = some d) : ∀ x ∈ d.weights P f.type, x ≤ reachBytes := fun x hx =>
  hr x (by simp only [DataW.weights, ht]; exact weights_each (i := i) (by simp; exact ⟨f, hf, rfl⟩) hd x hx)
end
end Go.Proofs.YtckcnenhnniogaaDoor.Bas
