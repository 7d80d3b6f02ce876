/- The walks of the document's begins and skip. -/
import Derived.Test.YtckcnenhnniogaaDoorTagSize
set_option linter.unusedSimpArgs false
set_option linter.unusedVariables false
namespace Go.Proofs.YtckcnenhnniogaaDoor.TagW
open Go.RowKit Go.Proofs.YtckcnenhnniogaaDoor.Bas Go.Proofs.YtckcnenhnniogaaDoor.FixpW Go.Proofs.YtckcnenhnniogaaDoor.DecW Go.Proofs.YtckcnenhnniogaaDoor.FldW Go.Proofs.YtckcnenhnniogaaDoor.TagM

theorem skipA_hit {s : List UInt8} {i : Nat} (hi : i < s.length) (h : hdrB <+: s.drop i) : skipA s i (s.length - i) = some i := by
  rw [show s.length - i = (s.length - (i + 1)) + 1 by omega]
  unfold skipA
  rw [if_pos h]
theorem skipA_miss {s : List UInt8} {i : Nat} (hi : i < s.length) (h : ¬ hdrB <+: s.drop i) : skipA s i (s.length - i) = skipA s (i + 1) (s.length - (i + 1)) := by
  rw [show s.length - i = (s.length - (i + 1)) + 1 by omega]
  conv => lhs; unfold skipA
  rw [if_neg h]
theorem skipA_end {s : List UInt8} {i : Nat} (hi : s.length ≤ i) : skipA s i (s.length - i) = none := by
  rw [show s.length - i = 0 by omega]; rfl
theorem skipB_hit {s : List UInt8} {i : Nat} (hi : i < s.length) (h : s.drop i <+: hdrB) : skipB s i (s.length - i) = some i := by
  rw [show s.length - i = (s.length - (i + 1)) + 1 by omega]
  unfold skipB
  rw [if_pos h]
theorem skipB_miss {s : List UInt8} {i : Nat} (hi : i < s.length) (h : ¬ s.drop i <+: hdrB) : skipB s i (s.length - i) = skipB s (i + 1) (s.length - (i + 1)) := by
  rw [show s.length - i = (s.length - (i + 1)) + 1 by omega]
  conv => lhs; unfold skipB
  rw [if_neg h]
theorem skipB_end {s : List UInt8} {i : Nat} (hi : s.length ≤ i) : skipB s i (s.length - i) = none := by
  rw [show s.length - i = 0 by omega]; rfl
theorem skipR_A {s : List UInt8} {i : Nat} (h : skipA s 1 (s.length - 1) = some i) : skipR s = i := by unfold skipR; rw [h]; rfl
theorem skipR_B {s : List UInt8} {i : Nat} (h : skipA s 1 (s.length - 1) = none) (h2 : skipB s 1 (s.length - 1) = some i) : skipR s = i := by unfold skipR; rw [h, h2]; rfl
theorem skipR_none {s : List UInt8} (h : skipA s 1 (s.length - 1) = none) (h2 : skipB s 1 (s.length - 1) = none) : skipR s = s.length := by unfold skipR; rw [h, h2]; rfl
theorem take_of_prefix {x y : List UInt8} (_ : y.length ≤ x.length) : (x.take y.length = y) ↔ y <+: x := by
  constructor
  · intro e; rw [← e]; exact List.take_prefix _ _
  · intro hp; exact (List.prefix_iff_eq_take.1 hp).symm
end Go.Proofs.YtckcnenhnniogaaDoor.TagW
