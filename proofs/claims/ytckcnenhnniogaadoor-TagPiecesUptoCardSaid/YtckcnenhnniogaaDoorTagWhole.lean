/- The walks of the document's whole and Encode. -/
import Derived.Test.YtckcnenhnniogaaDoorTagRef
import Derived.Test.YtckcnenhnniogaaDoorTagEncode
set_option linter.unusedSimpArgs false
set_option linter.unusedVariables false
namespace Go.Proofs.YtckcnenhnniogaaDoor.TagW
open Go.RowKit Go.Proofs.YtckcnenhnniogaaDoor.Bas Go.Proofs.YtckcnenhnniogaaDoor.FixpW Go.Proofs.YtckcnenhnniogaaDoor.DecW Go.Proofs.YtckcnenhnniogaaDoor.FldW Go.Proofs.YtckcnenhnniogaaDoor.TagM

theorem whole_lead (B : List UInt8) : (⟨#[56, 61, 70, 73, 88, 46, 52, 46, 52, 1, 57, 61]⟩ ++ ⟨(Lib.decDigits B.length).toArray⟩ ++ ⟨#[1]⟩ ++ ⟨B.toArray⟩ : ByteArray) = ⟨(allB B).toArray⟩ := by
  apply ByteArray.ext
  simp [allB, hdrB]
/-- a text as a value -/
def textOf : Value → Nat
  | .string T => T.size
  | _ => 0
def PadR (sm : Nat) (s : Value) : Prop := ∃ (j : Nat) (T : ByteArray), s = .string T ∧ Hid (T = ⟨(List.replicate j 48 ++ Lib.decDigits sm).toArray⟩) ∧ T.size = j + Lib.nDigits sm ∧ T.size ≤ 3
theorem pad_step (j : Nat) (L : List UInt8) : (⟨#[48]⟩ ++ ⟨(List.replicate j 48 ++ L).toArray⟩ : ByteArray) = ⟨(List.replicate (j + 1) 48 ++ L).toArray⟩ := by
  apply ByteArray.ext
  simp [List.replicate_succ]
theorem nd3 {n : Nat} (h : n < 256) : Lib.nDigits n ≤ 3 := by
  have := Lib.decDigits_length n
  by_cases h1 : n < 10
  · rw [Lib.nDigits_small h1]; omega
  rw [Lib.nDigits_big h1]
  by_cases h2 : n / 10 < 10
  · rw [Lib.nDigits_small h2]; omega
  rw [Lib.nDigits_big h2, Lib.nDigits_small (by omega)]
  exact Nat.le_refl _
theorem whole_end (A lo : List UInt8) : (⟨A.toArray⟩ ++ ⟨#[49, 48, 61]⟩ ++ ⟨lo.toArray⟩ ++ ⟨#[1]⟩ : ByteArray) = ⟨(A ++ ([49, 48, 61] ++ lo ++ [1])).toArray⟩ := by
  apply ByteArray.ext
  simp
end Go.Proofs.YtckcnenhnniogaaDoor.TagW
