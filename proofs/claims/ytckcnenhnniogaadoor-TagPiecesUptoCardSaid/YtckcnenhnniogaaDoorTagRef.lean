/- The walks of the document's right, Body and Valid. -/
import Derived.Test.YtckcnenhnniogaaDoorTagBody
set_option linter.unusedSimpArgs false
set_option linter.unusedVariables false
namespace Go.Proofs.YtckcnenhnniogaaDoor.TagW
open Go.RowKit Go.Proofs.YtckcnenhnniogaaDoor.Bas Go.Proofs.YtckcnenhnniogaaDoor.FixpW Go.Proofs.YtckcnenhnniogaaDoor.DecW Go.Proofs.YtckcnenhnniogaaDoor.FldW Go.Proofs.YtckcnenhnniogaaDoor.TagM

/-- between two bytes of a text -/
def ScanT (l : List UInt8) (W : World) (i : Value) (wr : World) : Prop := ∃ n : Nat, n ≤ l.length ∧ i = .int .i64 n ∧ (∀ m (h : m < l.length), m < n → l[m] ≠ 1) ∧ wr = W
theorem ScanT.mk {l : List UInt8} {W : World} {n : Nat} (h1 : n ≤ l.length) (h2 : ∀ m (h : m < l.length), m < n → l[m] ≠ 1) : ScanT l W (.int .i64 n) W := ⟨n, h1, rfl, h2, rfl⟩
theorem byte_1 {c : UInt8} : ((c.toNat : Int) == 1) = decide (c = 1) := by
  rw [Bool.eq_iff_iff]
  simp
  constructor
  · intro h; exact UInt8.toNat_inj.1 (by have : (1 : UInt8).toNat = 1 := rfl; omega)
  · rintro rfl; rfl
theorem ret_int {a b : Int} (h : a = b) : Ending.returned (.int .i64 a) = .returned (.int .i64 b) := by rw [h]
theorem ret_str {S T : ByteArray} (h : S = T) : Ending.returned (.string S) = .returned (.string T) := by rw [h]
def RBodyR (w : World) (a : Option Addr) (fs : List Fld) (o i : Value) (wr : World) : Prop := ∃ (k : Nat) (S : ByteArray), k ≤ fs.length ∧ i = .int .i64 k ∧ o = .string S ∧ Hid (S = ⟨(bodyB (fs.take k)).toArray⟩) ∧ At wr a (fcells fs) ∧ Below w.heap.size w wr
theorem body_step (B A s : List UInt8) : (⟨B.toArray⟩ ++ ⟨A.toArray⟩ ++ ⟨#[61]⟩ ++ ⟨s.toArray⟩ ++ ⟨#[1]⟩ : ByteArray) = ⟨(B ++ (A ++ [61] ++ s ++ [1])).toArray⟩ := by
  apply ByteArray.ext
  simp
theorem validR_bad {f : Fld} {r : List Fld} (h : f.1 ≠ 35 ∨ badF (f :: r) = true) : validR (f :: r) = 11 := by simp only [validR]; rw [if_pos h]
theorem validR_ok {f : Fld} {r : List Fld} (h1 : f.1 = 35) (h2 : badF (f :: r) = false) : validR (f :: r) = if 4096 < (bodyB (f :: r)).length then 3 else 0 := by
  simp only [validR]
  rw [if_neg (by simp [h1, h2])]
end Go.Proofs.YtckcnenhnniogaaDoor.TagW
