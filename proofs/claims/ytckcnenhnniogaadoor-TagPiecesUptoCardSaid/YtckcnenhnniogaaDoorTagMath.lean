/- Frames of fields: what Valid answers. No program in sight. -/
import Derived.Test.YtckcnenhnniogaaDoorBaseFld
import Derived.Test.YtckcnenhnniogaaDoorDecMath
set_option linter.unusedSimpArgs false
set_option linter.unusedVariables false
namespace Go.Proofs.YtckcnenhnniogaaDoor.TagM
open Go.Proofs.YtckcnenhnniogaaDoor.FldW

/-- can the field be in a frame? -/
def rightF (f : Fld) : Bool := decide (1 ≤ f.1 ∧ f.1 ≤ 9999 ∧ f.1 ≠ 8 ∧ f.1 ≠ 9 ∧ f.1 ≠ 10 ∧ f.2 ≠ [] ∧ (1 : UInt8) ∉ f.2)
/-- a field's bytes -/
def fieldB (f : Fld) : List UInt8 := Lib.decDigits f.1.toNat ++ [61] ++ f.2 ++ [1]
def bodyB (fs : List Fld) : List UInt8 := fs.flatMap fieldB
def badF (fs : List Fld) : Bool := fs.any fun f => !rightF f
def validR (fs : List Fld) : Int := match fs with
  | [] => 11
  | f :: r => if f.1 ≠ 35 ∨ badF (f :: r) = true then 11 else if 4096 < (bodyB (f :: r)).length then 3 else 0
theorem bodyB_snoc {fs : List Fld} {k : Nat} (h : k < fs.length) : bodyB (fs.take (k + 1)) = bodyB (fs.take k) ++ fieldB fs[k] := by
  unfold bodyB
  rw [List.take_succ_eq_append_getElem h, List.flatMap_append]
  simp
theorem badF_false {fs : List Fld} (h : badF fs = false) : ∀ f ∈ fs, rightF f = true := by
  unfold badF at h
  rw [List.any_eq_false] at h
  intro f hf
  simpa using h f hf
theorem badF_true {fs : List Fld} {k : Nat} (hk : k < fs.length) (h : rightF fs[k] = false) : badF fs = true := by
  unfold badF
  rw [List.any_eq_true]
  exact ⟨fs[k], List.getElem_mem hk, by simp [h]⟩
theorem badF_none {fs : List Fld} (h : ∀ f ∈ fs.take fs.length, rightF f = true) : badF fs = false := by
  unfold badF
  rw [List.any_eq_false]
  intro f hf
  simp [h f (by rwa [List.take_length])]
theorem right_of {f : Fld} (h : rightF f = true) : 1 ≤ f.1 ∧ f.1 ≤ 9999 ∧ f.1 ≠ 8 ∧ f.1 ≠ 9 ∧ f.1 ≠ 10 ∧ f.2 ≠ [] ∧ (1 : UInt8) ∉ f.2 := by simpa [rightF] using h
theorem digits_le (n : Nat) (h : n ≤ 9999) : (Lib.decDigits n).length ≤ 4 := by
  rw [Lib.decDigits_length]
  by_cases h1 : n < 10
  · rw [Lib.nDigits_small h1]; omega
  rw [Lib.nDigits_big h1]
  by_cases h2 : n / 10 < 10
  · rw [Lib.nDigits_small h2]; omega
  rw [Lib.nDigits_big h2]
  by_cases h3 : n / 10 / 10 < 10
  · rw [Lib.nDigits_small h3]; omega
  rw [Lib.nDigits_big h3, Lib.nDigits_small (by omega)]
  exact Nat.le_refl _
theorem fieldB_len {f : Fld} (h : rightF f = true) : (fieldB f).length ≤ 6 + f.2.length := by
  have h1 := right_of h
  have := digits_le f.1.toNat (by omega)
  unfold fieldB
  simp
  omega
end Go.Proofs.YtckcnenhnniogaaDoor.TagM
