/- What Frames goes over, and what is left. No program in sight. -/
import Derived.Test.YtckcnenhnniogaaDoorTagBackMath
set_option linter.unusedSimpArgs false
set_option linter.unusedVariables false
namespace Go.Proofs.YtckcnenhnniogaaDoor.TagW
open Go.Proofs.YtckcnenhnniogaaDoor.FldW Go.Proofs.YtckcnenhnniogaaDoor.TagM Go.Proofs.YtckcnenhnniogaaDoor.DecM Go.Lib

/-- a frame, or what is at fault -/
abbrev Itm := List Fld × Int
noncomputable def framesA : Nat → List UInt8 → List Itm × Nat
  | 0, s => ([], s.length)
  | k + 1, s => if (decodeR s).2 = 10 then ([], s.length) else (((decodeR s).1.1, (decodeR s).2) :: (framesA k (s.drop (decodeR s).1.2)).1, (framesA k (s.drop (decodeR s).1.2)).2)
noncomputable def framesR (s : List UInt8) : List Itm × Nat := framesA (s.length + 1) s
theorem decode_pos {s : List UInt8} (h : (decodeR s).2 ≠ 10) : 1 ≤ (decodeR s).1.2 ∧ (decodeR s).1.2 ≤ s.length := by
  have := decode_end (s := s) (fs := (decodeR s).1.1) (n := (decodeR s).1.2) (e := (decodeR s).2) rfl
  exact ⟨this.2.2 h, this.1⟩
theorem framesA_fuel : ∀ (k : Nat) {s : List UInt8}, s.length < k → framesA k s = framesA (k + 1) s
  | 0, s, h => absurd h (Nat.not_lt_zero _)
  | k + 1, s, h => by
    conv => lhs; unfold framesA
    conv => rhs; unfold framesA
    by_cases he : (decodeR s).2 = 10
    · rw [if_pos he, if_pos he]
    · have := decode_pos he
      rw [if_neg he, if_neg he, framesA_fuel k (s := s.drop (decodeR s).1.2) (by rw [List.length_drop]; omega)]
theorem framesA_more {s : List UInt8} {k : Nat} (h : s.length < k) : framesA k s = framesR s := by
  unfold framesR
  induction k with
  | zero => exact absurd h (Nat.not_lt_zero _)
  | succ k ih =>
    rcases (by omega : k = s.length ∨ s.length < k) with rfl | h2
    · rfl
    · rw [← framesA_fuel k h2, ih h2]
theorem framesR_stop {s : List UInt8} (h : (decodeR s).2 = 10) : framesR s = ([], s.length) := by
  unfold framesR framesA
  rw [if_pos h]
theorem framesR_step {s : List UInt8} (h : (decodeR s).2 ≠ 10) : framesR s = (((decodeR s).1.1, (decodeR s).2) :: (framesR (s.drop (decodeR s).1.2)).1, (framesR (s.drop (decodeR s).1.2)).2) := by
  have := decode_pos h
  rw [← framesA_more (s := s.drop (decodeR s).1.2) (k := s.length) (by rw [List.length_drop]; omega)]
  conv => lhs; unfold framesR framesA
  rw [if_neg h]
theorem frames_len {s : List UInt8} : (framesR s).1.length ≤ s.length ∧ (framesR s).2 ≤ s.length := by
  have : ∀ k (s : List UInt8), s.length ≤ k → (framesR s).1.length ≤ s.length ∧ (framesR s).2 ≤ s.length := by
    intro k
    induction k with
    | zero =>
      intro s hs
      by_cases h : (decodeR s).2 = 10
      · rw [framesR_stop h]; exact ⟨Nat.zero_le _, Nat.le_refl _⟩
      · have := decode_pos h; omega
    | succ k ih =>
      intro s hs
      by_cases h : (decodeR s).2 = 10
      · rw [framesR_stop h]; exact ⟨Nat.zero_le _, Nat.le_refl _⟩
      · have hp := decode_pos h
        have := ih (s.drop (decodeR s).1.2) (by rw [List.length_drop]; omega)
        rw [framesR_step h]
        rw [List.length_drop] at this
        simp only [List.length_cons]
        omega
  exact this s.length s (Nat.le_refl _)
/-- a frame in front is read first -/
theorem frames_front {fs : List Fld} (h : validR fs = 0) (b : List UInt8) : framesR (frameB (bodyB fs) ++ b) = ((fs, 0) :: (framesR b).1, (framesR b).2) := by
  have hd := decode_frame h b
  rw [framesR_step (by rw [hd]; simp), hd]
  simp
theorem decode_nil : decodeR [] = (([], 0), 10) := decode_short (by decide)
theorem frames_nil : framesR [] = ([], 0) := framesR_stop (by rw [decode_nil])
theorem frames_one {fs : List Fld} (h : validR fs = 0) : framesR (frameB (bodyB fs)) = ([(fs, 0)], 0) := by
  have := frames_front h []
  rw [List.append_nil, frames_nil] at this
  exact this
end Go.Proofs.YtckcnenhnniogaaDoor.TagW
