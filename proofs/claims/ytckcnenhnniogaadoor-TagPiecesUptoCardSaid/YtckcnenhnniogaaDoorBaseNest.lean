/- A slice that is a part of an argument (an element's, a field's): its rows. No program in sight. -/
import Derived.Test.YtckcnenhnniogaaDoorBaseRows
set_option linter.unusedSimpArgs false
set_option linter.unusedVariables false
namespace Go.Proofs.YtckcnenhnniogaaDoor.Bas
open Go.ChangeShapes Go.WideShapes Go.ChangeAt Go.RowKit
section
variable {P : Program} {H : Type} {enc : TypeId × Value → H}

/-- cells that are read as a slice: its rows, each read as an element -/
theorem open_rows_at {W : World} {t e : TypeId} {cs : List Value} {fuel : Nat} {y : DataW H × List MemPlace} (ht : P.underlying t = some (.slice e))
    (hf : DataW.trod enc P W 0 (fun _ => true) true fuel t cs = some y) :
    ∃ (a : Option Addr) (rows : List (List Value)) (cap : Nat), cs = [.slice a rows.length cap] ∧ (∀ r ∈ rows, r.length = P.cellsOf e) ∧ At W a rows.flatten ∧ rows.length ≤ cap ∧ cap ≤ maxLen ∧
      ((y.1 = .nil ∧ cap = 0 ∧ rows = [] ∧ a = none) ∨ ∃ es sp, y.1 = .slice es sp ∧ es.length = rows.length ∧ es.length + sp.length = cap ∧ ∀ (i : Nat) r, rows[i]? = some r → ∃ m y, DataW.trod enc P W 0 (fun _ => true) true m e r = some y ∧ es[i]? = some y.1) := by
  rcases Go.Deep.open_slice ht hf with ⟨rfl, hx⟩ | ⟨x, len, cap, m, n, D, Pl, rfl, _, hl, hm, hmm, hx, hi⟩
  · subst hx
    exact ⟨none, [], 0, rfl, by simp, At.nil _ _, Nat.le_refl _, by simp [maxLen], .inl ⟨rfl, rfl, rfl, rfl⟩⟩
  · subst hx
    simp only [if_true] at hmm
    have hrow : ∀ i, ∃ cs', i < len → W.cells? 0 (x.add (i * P.cellsOf e)) (P.cellsOf e) = some cs' ∧ DataW.trod enc P W 0 (fun _ => true) true n e cs' = some (D i, Pl i) := fun i => by
      by_cases hil : i < len
      · obtain ⟨cs', h1, h2⟩ := hi i (by omega)
        exact ⟨cs', fun _ => ⟨h1, h2⟩⟩
      · exact ⟨[], fun h => absurd h hil⟩
    obtain ⟨R, hR⟩ := Classical.axiomOfChoice hrow
    have hlen : ((List.range len).map R).length = len := by simp
    have hget : ∀ (i : Nat) r, ((List.range len).map R)[i]? = some r → i < len ∧ r = R i := fun i r h => by
      rw [List.getElem?_map] at h
      by_cases hil : i < len
      · rw [List.getElem?_range hil] at h
        exact ⟨hil, by simpa using h.symm⟩
      · rw [List.getElem?_eq_none (by simp; omega)] at h; cases h
    have hcl : ∀ r ∈ (List.range len).map R, r.length = P.cellsOf e := fun r hr => by
      obtain ⟨i, hi', rfl⟩ := List.mem_map.1 hr
      obtain ⟨_, hcl, _⟩ := World.cells?_some (hR i (by simpa using hi')).1
      exact hcl
    refine ⟨some x, (List.range len).map R, cap, by rw [hlen], hcl, ?_, by rw [hlen]; exact hl, hm, .inr ⟨_, _, rfl, by simp, by simp; omega, fun i r hr => ?_⟩⟩
    · intro j u hj
      obtain ⟨i, c, r, h1, h2, h3, h4⟩ := flat_get _ hcl j u hj
      obtain ⟨hil, rfl⟩ := hget i r h1
      obtain ⟨_, hcl', hat⟩ := World.cells?_some (hR i hil).1
      have hc0 := hat c h4
      rw [h2] at hc0
      have hspot : x.spot = none := by
        obtain ⟨_, hcl0, hat0⟩ := World.cells?_some (hR 0 (by omega)).1
        have hz := hat0 0 (by omega)
        rw [List.getElem?_eq_getElem (by omega)] at hz
        have := World.cell?_spot hz
        simpa [Addr.add] using this
      obtain ⟨b, off, spot⟩ := x
      simp only at hspot
      subst hspot
      refine ⟨b, off, rfl, ?_⟩
      have e1 : (((⟨b, off, none⟩ : Addr).add (i * P.cellsOf e)).add c) = ⟨b, off + j, none⟩ := by
        unfold Addr.add
        by_cases h0 : i * P.cellsOf e = 0
        · rw [if_pos h0]
          by_cases h9 : c = 0
          · rw [if_pos h9, show j = 0 by omega]; rfl
          · rw [if_neg h9]
            rw [show j = c by omega]
        · rw [if_neg h0]
          by_cases h9 : c = 0
          · rw [if_pos h9, show j = i * P.cellsOf e by omega]
          · rw [if_neg h9, h3, Nat.add_assoc]
      rw [← e1]; exact hc0
    · obtain ⟨hil, rfl⟩ := hget i r hr
      exact ⟨n, _, (hR i hil).2, by simp [hil]⟩
/-- cells that are read as a struct: those fields of it that have one cell -/
theorem fields_at {W : World} {fs : Array Field} {t : TypeId} {cs : List Value} {fuel : Nat} {y : DataW H × List MemPlace} (ht : P.underlying t = some (.struct fs))
    (hf : DataW.trod enc P W 0 (fun _ => true) true fuel t cs = some y) :
    cs.length = P.cellsOf t ∧ ∃ ds : List (DataW H), y.1 = .agg ds ∧ ds.length = fs.size ∧
      ∀ (i : Nat) (f : Field), fs[i]? = some f → P.cellsOf f.type = 1 → ∃ (x : Value) (z : DataW H × List MemPlace) (m : Nat), cs[f.offset]? = some x ∧ ds[i]? = some z.1 ∧ DataW.trod enc P W 0 (fun _ => true) true m f.type [x] = some z := by
  obtain ⟨xs, m, _, hx, hl, hlen, hg⟩ := DataW.trod_struct ht hf
  subst hx
  refine ⟨hl, xs.map (·.1), rfl, by simpa using hlen, ?_⟩
  intro i f hfi hc
  have h1 := hg i f hfi
  have hi : i < fs.size := (Array.getElem?_eq_some_iff.1 hfi).1
  rw [hc] at h1
  rw [List.getElem?_eq_getElem (show i < xs.length by omega)] at h1
  have hne : cs[f.offset]? ≠ none := by
    intro hn
    rw [List.getElem?_eq_none_iff] at hn
    rw [List.drop_of_length_le hn] at h1
    cases m with
    | zero => simp [DataW.trod] at h1
    | succ n =>
      unfold DataW.trod at h1
      simp only [List.take_nil] at h1
      split at h1 <;> simp_all
  obtain ⟨x, hx⟩ := Option.ne_none_iff_exists'.1 hne
  have hlt := (List.getElem?_eq_some_iff.1 hx).1
  have e : (cs.drop f.offset).take 1 = [x] := by
    rw [List.drop_eq_getElem_cons hlt]
    rw [List.getElem?_eq_getElem hlt] at hx
    injection hx with hx
    rw [hx]; rfl
  rw [e] at h1
  exact ⟨x, _, m, hx, by rw [List.getElem?_map, List.getElem?_eq_getElem (show i < xs.length by omega)]; rfl, h1⟩
/-- cells that are read as a slice of records -/
theorem open_recs {α : Type} {f : α → List Value} {Ok : α → Prop} {W : World} {t e : TypeId} {cs : List Value} {fuel : Nat} {y : DataW H × List MemPlace} (ht : P.underlying t = some (.slice e))
    (hf : DataW.trod enc P W 0 (fun _ => true) true fuel t cs = some y) (hw : ∀ x ∈ y.1.weights P t, x ≤ reachBytes)
    (each : ∀ (m : Nat) (r : List Value) (z : DataW H × List MemPlace), r.length = P.cellsOf e → DataW.trod enc P W 0 (fun _ => true) true m e r = some z → (∀ x ∈ z.1.weights P e, x ≤ reachBytes) → ∃ x, r = f x ∧ Ok x) :
    ∃ (a : Option Addr) (l : List α) (cap : Nat), cs = [.slice a l.length cap] ∧ At W a (l.flatMap f) ∧ l.length ≤ cap ∧ cap ≤ maxLen ∧ (∀ x ∈ l, Ok x) ∧ cap * P.bytesOf e ≤ 140737488351232 := by
  obtain ⟨a, rows, cap, rfl, hl, hat, hc, hm, hd⟩ := open_rows_at ht hf
  have all : ∀ (rs : List (List Value)), (∀ r ∈ rs, ∃ x, r = f x ∧ Ok x) → ∃ l : List α, l.length = rs.length ∧ rs.flatten = l.flatMap f ∧ ∀ x ∈ l, Ok x := by
    intro rs
    induction rs with
    | nil => intro _; exact ⟨[], rfl, rfl, by simp⟩
    | cons r rs ih =>
      intro hr
      obtain ⟨l, h1, h2, h3⟩ := ih (fun r h => hr r (List.mem_cons_of_mem _ h))
      obtain ⟨x, rfl, hx⟩ := hr r List.mem_cons_self
      refine ⟨x :: l, by simp [h1], by rw [List.flatten_cons, h2, List.flatMap_cons], fun z hz => ?_⟩
      rcases List.mem_cons.1 hz with rfl | hz
      · exact hx
      · exact h3 z hz
  obtain ⟨l, h1, h2, h3⟩ := all rows (by
    rcases hd with ⟨_, _, rfl, _⟩ | ⟨es, sp, hy, hes, _, hrows⟩
    · simp
    · intro r hr
      obtain ⟨i, hi⟩ := List.getElem?_of_mem hr
      obtain ⟨m, z, hz, he⟩ := hrows i r hi
      rw [hy] at hw
      exact each m r z (hl r hr) hz (reach_elem ht hw he))
  refine ⟨a, l, cap, by rw [h1], by rw [← h2]; exact hat, by omega, hm, h3, ?_⟩
  rcases hd with ⟨_, rfl, _, _⟩ | ⟨es, sp, hy, hes, hcp, _⟩
  · omega
  · rw [hy] at hw
    have := hw ((es.length + sp.length) * P.bytesOf e) (by simp only [DataW.weights, ht]; exact List.mem_cons_self)
    unfold reachBytes at this
    rw [hcp] at this
    omega
end
end Go.Proofs.YtckcnenhnniogaaDoor.Bas
