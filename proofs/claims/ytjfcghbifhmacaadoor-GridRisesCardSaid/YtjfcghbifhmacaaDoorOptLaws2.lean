/- The plain laws of layer 11: what rises. -/
import Derived.Test.YtjfcghbifhmacaaDoorOptLaws
namespace Go.Proofs.YtjfcghbifhmacaaDoor.OptW
open Go.RowKit Go.Proofs.YtjfcghbifhmacaaDoor.Bas Go.Proofs.YtjfcghbifhmacaaDoor.FixpM Go.Proofs.YtjfcghbifhmacaaDoor.FixpW

theorem topF_some {s v d t : Int} (h : topF s v d = some t) : 0 ≤ s * (v * d) - t * 3650000 ∧ s * (v * d) - t * 3650000 < 3650000 := by
  unfold topF at h
  split at h
  · rename_i h1
    split at h
    · rename_i h2
      obtain ⟨_, _, _, e1⟩ := mulF_ok (a := v) (b := d) (x := (mulF v d).1) (Prod.ext rfl h1)
      obtain ⟨_, _, _, _, _, _, e2⟩ := mulDivF_ok (a := s) (b := (mulF v d).1) (c := 3650000) (m := 0) (d := (mulDivF s (mulF v d).1 3650000 0).1) (Prod.ext rfl h2)
      obtain ⟨_, e3⟩ := okv_ok e2
      simp only [Option.some.injEq] at h
      rw [h, e1] at e3
      have := rnd_down (s * (v * d)) 3650000 (by omega)
      rw [e3] at this
      exact this
    · simp at h
  · simp at h
theorem topF_mono {s v d v2 d2 t t2 : Int} (h : topF s v d = some t) (h2 : topF s v2 d2 = some t2) (hle : s * (v * d) ≤ s * (v2 * d2)) : t ≤ t2 := by
  have a := topF_some h
  have b := topF_some h2
  generalize s * (v * d) = n at *
  generalize s * (v2 * d2) = n2 at *
  omega

/-- at no days to go: the inner value -/
theorem value_inner {call : Bool} {s p v : Int} (hs : markIn s = true) (hp : markIn p = true) (hv : markIn v = true) : valueF call s p v 0 = (max (gapF call s p) 0, 0) := by
  rw [valueF_in call s p v 0 hs hp hv]
  simp [posF]
theorem inner_le {call : Bool} {s p v d a : Int} (h : valueF call s p v d = (a, 0)) : max (gapF call s p) 0 ≤ a ∧ (d ≤ 0 → a = max (gapF call s p) 0) := by
  obtain ⟨_, _, _, h1⟩ := valueF_ok h
  rcases h1 with ⟨k1, h1⟩ | ⟨k1, _, t, ht, h1, _⟩ <;> omega
/-- a greater gap -/
theorem gap_rises {call : Bool} {s p q v d a b : Int} (ha : valueF call s p v d = (a, 0)) (hb : valueF call s q v d = (b, 0)) (hq : gapF call s p ≤ gapF call s q) : a ≤ b := by
  obtain ⟨_, _, _, h1⟩ := valueF_ok ha
  obtain ⟨_, _, _, h2⟩ := valueF_ok hb
  generalize gapF call s p = g at *
  generalize gapF call s q = g2 at *
  rcases h1 with ⟨k1, h1⟩ | ⟨k1, _, t, ht, h1, _⟩ <;> rcases h2 with ⟨k2, h2⟩ | ⟨k2, _, t2, ht2, h2, _⟩
  · omega
  · omega
  · omega
  · rw [ht] at ht2
    simp only [Option.some.injEq] at ht2
    subst ht2
    rw [half_eq] at h1 h2
    omega
/-- a greater volatility, more days -/
theorem time_rises {call : Bool} {s p v d v2 d2 a b : Int} (ha : valueF call s p v d = (a, 0)) (hb : valueF call s p v2 d2 = (b, 0)) (hv : v ≤ v2) (hd : max d 0 ≤ max d2 0) : a ≤ b := by
  obtain ⟨hs, _, hv0, h1⟩ := valueF_ok ha
  obtain ⟨_, _, hv2, h2⟩ := valueF_ok hb
  have ms := marks s hs
  have mv := marks v hv0
  generalize gapF call s p = g at *
  rcases h1 with ⟨k1, h1⟩ | ⟨k1, _, t, ht, h1, _⟩ <;> rcases h2 with ⟨k2, h2⟩ | ⟨k2, _, t2, ht2, h2, _⟩
  · omega
  · omega
  · omega
  · have hle : s * (v * d) ≤ s * (v2 * d2) := by
      refine Int.mul_le_mul_of_nonneg_left ?_ ms.1
      exact Int.mul_le_mul hv (by omega) (by omega) (by omega)
    have := topF_mono ht ht2 hle
    rw [half_eq] at h1 h2
    omega
end Go.Proofs.YtjfcghbifhmacaaDoor.OptW
