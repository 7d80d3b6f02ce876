/- The walk of the document's Format. -/
import Derived.Test.YtbpndiegbfpigaaGreatDoorDecWalks
namespace Go.Proofs.YtbpndiegbfpigaaGreatDoor.DecW
open Go.RowKit Go.Proofs.YtbpndiegbfpigaaGreatDoor.Bas Go.Proofs.YtbpndiegbfpigaaGreatDoor.DecM Go.Proofs.YtbpndiegbfpigaaGreatDoor.FixpM Go.Proofs.YtbpndiegbfpigaaGreatDoor.FixpW

theorem u8_cell (d : Nat) (h : d < 10) : ((dgt d).toNat : Int) = 48 + d := by rw [dgt_toNat h]; omega
theorem ba_one (b : UInt8) (l : List UInt8) : (⟨#[b]⟩ : ByteArray) ++ ⟨l.toArray⟩ = ⟨(b :: l).toArray⟩ := ba_app [b] l
theorem str_ex {s : ByteArray} {l : List UInt8} (e : s = ⟨l.toArray⟩) (hl : l.length ≤ 40) : ∃ s', Value.string s = .string s' ∧ Hid (s' = ⟨l.toArray⟩) ∧ s'.size ≤ 40 := ⟨s, rfl, e, by rw [e]; exact hl⟩
theorem outL_len (X q k : Nat) : (outL X q k).length ≤ k + 1 := by
  unfold outL
  split
  · rw [low_len]; omega
  · simp [low_len]; omega

end Go.Proofs.YtbpndiegbfpigaaGreatDoor.DecW
