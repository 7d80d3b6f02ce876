/- Frames read: the size of a frame, and how much is passed over. No program in sight. -/
import Derived.Test.YtckcnenhnniogaaDoorTagEncMath
set_option linter.unusedSimpArgs false
set_option linter.unusedVariables false
namespace Go.Proofs.YtckcnenhnniogaaDoor.TagM
open Go.Proofs.YtckcnenhnniogaaDoor.FldW Go.Proofs.YtckcnenhnniogaaDoor.DecM Go.Lib

def leadL : List UInt8 := hdrB ++ [57, 61]
/-- is the byte none of a number's? -/
def badD (b : UInt8) (n : Nat) : Bool := !isD b || (decide (b = 48) && decide (n = 0)) || decide (4096 < n * 10 + (b.toNat - 48))
/-- the number that begins at a place: where the body begins, and how long it is -/
def scanA : Nat → Nat → List UInt8 → (Nat × Nat) × Int
  | _, _, [] => ((0, 0), 10)
  | p, n, b :: l => if b = 1 ∧ 1 ≤ n then ((p + 1, n), 0) else if badD b n = true then ((0, 0), 11) else scanA (p + 1) (n * 10 + (b.toNat - 48)) l
def sizeR (s : List UInt8) : (Nat × Nat) × Int :=
  if s.length < 12 ∧ s <+: leadL then ((0, 0), 10) else if leadL <+: s then scanA 12 0 (s.drop 12) else ((0, 0), 11)
theorem scanA_step {s : List UInt8} {p n : Nat} (hp : p < s.length) {c : (Nat × Nat) × Int} (h : scanA p n (s.drop p) = c) (h1 : ¬ (s[p] = 1 ∧ 1 ≤ n)) (h2 : badD s[p] n = false) : scanA (p + 1) (n * 10 + (s[p].toNat - 48)) (s.drop (p + 1)) = c := by
  rw [List.drop_eq_getElem_cons hp] at h
  unfold scanA at h
  rw [if_neg h1, if_neg (by simp [h2])] at h
  exact h
theorem scanA_hit {s : List UInt8} {p n : Nat} (hp : p < s.length) {c : (Nat × Nat) × Int} (h : scanA p n (s.drop p) = c) (h1 : s[p] = 1) (h2 : 1 ≤ n) : c = ((p + 1, n), 0) := by
  rw [List.drop_eq_getElem_cons hp] at h
  unfold scanA at h
  rw [if_pos ⟨h1, h2⟩] at h
  exact h.symm
theorem scanA_bad {s : List UInt8} {p n : Nat} (hp : p < s.length) {c : (Nat × Nat) × Int} (h : scanA p n (s.drop p) = c) (h1 : ¬ (s[p] = 1 ∧ 1 ≤ n)) (h2 : badD s[p] n = true) : c = ((0, 0), 11) := by
  rw [List.drop_eq_getElem_cons hp] at h
  unfold scanA at h
  rw [if_neg h1, if_pos h2] at h
  exact h.symm
theorem scanA_end {s : List UInt8} {p n : Nat} (hp : s.length ≤ p) {c : (Nat × Nat) × Int} (h : scanA p n (s.drop p) = c) : c = ((0, 0), 10) := by
  rw [List.drop_of_length_le hp] at h
  unfold scanA at h
  exact h.symm
theorem badD_of {b : UInt8} {n : Nat} (h : badD b n = false) : 48 ≤ b.toNat ∧ b.toNat ≤ 57 ∧ ¬ (b = 48 ∧ n = 0) ∧ n * 10 + (b.toNat - 48) ≤ 4096 := by
  unfold badD at h
  simp [isD_iff] at h
  obtain ⟨⟨h1, h2⟩, h3⟩ := h
  refine ⟨h1.1, h1.2, fun hh => h2 hh.1 hh.2, by omega⟩
/-- how many bytes are passed over -/
def skipA (s : List UInt8) : Nat → Nat → Option Nat
  | _, 0 => none
  | i, k + 1 => if hdrB <+: s.drop i then some i else skipA s (i + 1) k
def skipB (s : List UInt8) : Nat → Nat → Option Nat
  | _, 0 => none
  | i, k + 1 => if s.drop i <+: hdrB then some i else skipB s (i + 1) k
def skipR (s : List UInt8) : Nat := ((skipA s 1 (s.length - 1)).orElse fun _ => skipB s 1 (s.length - 1)).getD s.length
end Go.Proofs.YtckcnenhnniogaaDoor.TagM
