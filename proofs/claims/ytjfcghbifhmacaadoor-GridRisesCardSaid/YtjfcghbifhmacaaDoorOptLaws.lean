/- The plain laws of layer 11: over valueF. -/
import Derived.Test.YtjfcghbifhmacaaDoorOptValue
namespace Go.Proofs.YtjfcghbifhmacaaDoor.OptW
open Go.RowKit Go.Proofs.YtjfcghbifhmacaaDoor.Bas Go.Proofs.YtjfcghbifhmacaaDoor.FixpM Go.Proofs.YtjfcghbifhmacaaDoor.FixpW

/-- what time is worth at the money; nothing of the price is in it -/
def topF (s v d : Int) : Option Int :=
  if (mulF v d).2 = 0 then (if (mulDivF s (mulF v d).1 3650000 0).2 = 0 then some (mulDivF s (mulF v d).1 3650000 0).1 else none) else none
def halfF (g : Int) : Int := (max g (-g)).tdiv 2
theorem half_eq (g : Int) : halfF g = max g (-g) / 2 := by unfold halfF; rw [Int.tdiv_eq_ediv_of_nonneg (by omega)]

theorem valueF_ok {call : Bool} {s p v d a : Int} (h : valueF call s p v d = (a, 0)) :
    markIn s = true ∧ markIn p = true ∧ markIn v = true ∧
    ((d ≤ 0 ∧ a = max (gapF call s p) 0) ∨ (0 < d ∧ d ≤ 100000 ∧ ∃ t, topF s v d = some t ∧ a = max (gapF call s p) 0 + max (t - halfF (gapF call s p)) 0 ∧ fits a = true)) := by
  unfold valueF at h
  split at h
  · rename_i hm
    simp only [Bool.and_eq_true] at hm
    refine ⟨hm.1.1, hm.1.2, hm.2, ?_⟩
    split at h
    · rename_i h0
      simp only [Prod.mk.injEq] at h
      exact .inl ⟨h0, h.1.symm⟩
    · rename_i h0
      split at h
      · simp at h
      · rename_i h1
        split at h
        · rename_i h2
          simp only [] at h
          split at h
          · rename_i h3
            obtain ⟨_, _, hf, ha⟩ := addF_ok h
            exact .inr ⟨by omega, by omega, _, by unfold topF; rw [if_pos h2, if_pos h3], ha, hf⟩
          · rename_i h3
            simp only [Prod.mk.injEq] at h
            exact absurd h.2 h3
        · rename_i h2
          simp only [Prod.mk.injEq] at h
          exact absurd h.2 h2
  · simp at h

theorem small_fits {x : Int} (h : -100000000000000 ≤ x ∧ x ≤ 100000000000000) : fits x = true := by rw [fits_iff]; omega
theorem gap_small {call : Bool} {s p : Int} (hs : markIn s = true) (hp : markIn p = true) : -100000000000000 ≤ gapF call s p ∧ gapF call s p ≤ 100000000000000 := by
  have h1 := marks s hs
  have h2 := marks p hp
  unfold gapF; split <;> omega
theorem value_fits {call : Bool} {s p v d a : Int} (h : valueF call s p v d = (a, 0)) : -4611686018427387904 ≤ a ∧ a ≤ 4611686018427387904 := by
  obtain ⟨hs, hp, hv, h | ⟨_, _, t, _, _, hf⟩⟩ := valueF_ok h
  · have := gap_small (call := call) hs hp
    omega
  · exact (fits_iff a).1 hf

/-- a call less a put is the price less the strike -/
theorem pair_less {s p v d a b : Int} (ha : valueF true s p v d = (a, 0)) (hb : valueF false s p v d = (b, 0)) : a - b = p - s := by
  obtain ⟨_, _, _, h1⟩ := valueF_ok ha
  obtain ⟨_, _, _, h2⟩ := valueF_ok hb
  have g1 : gapF true s p = p - s := rfl
  have g2 : gapF false s p = s - p := rfl
  rw [g1] at h1
  rw [g2] at h2
  rcases h1 with ⟨k1, h1⟩ | ⟨k1, _, t, ht, h1, _⟩ <;> rcases h2 with ⟨k2, h2⟩ | ⟨k2, _, t2, ht2, h2, _⟩
  · omega
  · omega
  · omega
  · rw [ht] at ht2
    simp only [Option.some.injEq] at ht2
    subst ht2
    rw [half_eq] at h1 h2
    omega
/-- from a gap to the next the value rises by at most one -/
theorem gap_step {call : Bool} {s p q v d a b : Int} (ha : valueF call s p v d = (a, 0)) (hb : valueF call s q v d = (b, 0)) (hq : gapF call s q = gapF call s p + 1) : 0 ≤ b - a ∧ b - a ≤ 1 := by
  obtain ⟨_, _, _, h1⟩ := valueF_ok ha
  obtain ⟨_, _, _, h2⟩ := valueF_ok hb
  rw [hq] at h2
  generalize gapF call s p = g at h1 h2
  rcases h1 with ⟨k1, h1⟩ | ⟨k1, _, t, ht, h1, _⟩ <;> rcases h2 with ⟨k2, h2⟩ | ⟨k2, _, t2, ht2, h2, _⟩
  · omega
  · omega
  · omega
  · rw [ht] at ht2
    simp only [Option.some.injEq] at ht2
    subst ht2
    rw [half_eq] at h1 h2
    omega
end Go.Proofs.YtjfcghbifhmacaaDoor.OptW
