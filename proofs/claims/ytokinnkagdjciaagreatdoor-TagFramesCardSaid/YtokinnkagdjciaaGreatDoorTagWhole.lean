/- The walks of the document's whole and Encode. -/
import Derived.Test.YtokinnkagdjciaaGreatDoorTagRef
import Derived.Test.YtokinnkagdjciaaGreatDoorTagEncode
namespace Go.Proofs.YtokinnkagdjciaaGreatDoor.TagW
open Go.RowKit Go.Proofs.YtokinnkagdjciaaGreatDoor.Bas Go.Proofs.YtokinnkagdjciaaGreatDoor.FixpW Go.Proofs.YtokinnkagdjciaaGreatDoor.DecW Go.Proofs.YtokinnkagdjciaaGreatDoor.FldW Go.Proofs.YtokinnkagdjciaaGreatDoor.TagM

theorem whole_lead (B : List UInt8) : (⟨#[56, 61, 70, 73, 88, 46, 52, 46, 52, 1, 57, 61]⟩ ++ ⟨(Lib.decDigits B.length).toArray⟩ ++ ⟨#[1]⟩ ++ ⟨B.toArray⟩ : ByteArray) = ⟨(allB B).toArray⟩ := by
  apply ByteArray.ext
  simp [allB, hdrB]
/-- a text as a value -/
def textOf : Value → Nat
  | .string T => T.size
  | _ => 0
def PadR (sm : Nat) (s : Value) : Prop := ∃ (j : Nat) (T : ByteArray), s = .string T ∧ Hid (T = ⟨(List.replicate j 48 ++ Lib.decDigits sm).toArray⟩) ∧ T.size = j + Lib.nDigits sm ∧ T.size ≤ 3
theorem pad_step (j : Nat) (L : List UInt8) : (⟨#[48]⟩ ++ ⟨(List.replicate j 48 ++ L).toArray⟩ : ByteArray) = ⟨(List.replicate (j + 1) 48 ++ L).toArray⟩ := by
  apply ByteArray.ext
  simp [List.replicate_succ]
theorem nd3 {n : Nat} (h : n < 256) : Lib.nDigits n ≤ 3 := by
  have := Lib.decDigits_length n
  by_cases h1 : n < 10
  · rw [Lib.nDigits_small h1]; omega
  rw [Lib.nDigits_big h1]
  by_cases h2 : n / 10 < 10
  · rw [Lib.nDigits_small h2]; omega
  rw [Lib.nDigits_big h2, Lib.nDigits_small (by omega)]
  exact Nat.le_refl _
theorem whole_end (A lo : List UInt8) : (⟨A.toArray⟩ ++ ⟨#[49, 48, 61]⟩ ++ ⟨lo.toArray⟩ ++ ⟨#[1]⟩ : ByteArray) = ⟨(A ++ ([49, 48, 61] ++ lo ++ [1])).toArray⟩ := by
  apply ByteArray.ext
  simp
set_option maxHeartbeats 2000000 in
set_option maxRecDepth 20000 in
theorem whole_calls (B : List UInt8) (w : World) (hb : B.length ≤ 4096) (ht : Pow w) :
    Calls Tryz.prog 22 #[.string ⟨B.toArray⟩] w fun e w' => e = .returned (.string ⟨(frameB B).toArray⟩) ∧ Below w.heap.size w w' := by
  have HT := Lib.hid ht
  have HI := Lib.hid (fun W h => itoa_calls B.length W (by omega) h)
  have hfl := frame_len B hb
  have hAl : (allB B).length ≤ 4200 := by unfold frameB at hfl; simp at hfl; omega
  have hdl := digits_le B.length (by omega)
  have hsz : (⟨B.toArray⟩ : ByteArray).size = B.length := rfl
  clear ht hfl
  go_enter Tryz.func22, Tryz.ntmps22
  go_upto_region 2 with (go_at_call 28; refine (HI.out _ HT.out).mono ?_; rintro e w1 ⟨rfl, b1⟩)
  obtain ⟨v4, w4, hcv, own4, b4, hv4⟩ := run_bytes_M (P := Tryz.prog) w1 9 22 5 (⟨#[56, 61, 70, 73, 88, 46, 52, 46, 52, 1, 57, 61]⟩ ++ ⟨(Lib.decDigits B.length).toArray⟩ ++ ⟨#[1]⟩ ++ ⟨B.toArray⟩) Tryz.underlying9 Tryz.underlying22 Tryz.underlying5 (by rw [whole_lead]; simp [maxLen, ByteArray.size]; omega) w.heap.size b1.size
  have own4' := own_str own4 (whole_lead B)
  have hAB := Lib.hid (whole_lead B)
  obtain ⟨a4, c4, rfl, hc4, hm4, at4⟩ := own4'.at_
  have hs := smallB_lt (allB B)
  have CS := Lib.hid (fun W h => SumW.refsmall_calls a4 c4 (allB B) W (by omega) h)
  simp only [smallB_n] at CS
  have hFR := Lib.hid (show frameB B = allB B ++ ([49, 48, 61] ++ DecM.low (smallB (allB B)) 3 ++ [1]) from rfl)
  generalize smallB (allB B) = sm at *
  have HJ := Lib.hid (fun W h => itoa_calls sm W (by omega) h)
  have hnd := nd3 hs
  have B4 := b1.trans (b4.mono b1.size)
  clear own4 own4' hv4 HI
  go_upto_region 3 with (first
    | (go_at_call 42; refine (CS.out _ at4).mono ?_; rintro e w5 ⟨rfl, rfl⟩)
    | (go_at_call 28; refine (HJ.out _ (HT.out.keep B4)).mono ?_; rintro e w6 ⟨rfl, b6⟩; have B6 := B4.trans (b6.mono B4.size)))
  have dl : (Lib.decDigits sm).length = Lib.nDigits sm := Lib.decDigits_length sm
  have hpad := Lib.hid (@three_pad sm (by omega))
  clear CS HJ hs hm4 hc4 at4 b6 b4 hcv B4
  go_loopw [4] (fun s wr => PadR sm s ∧ wr = w6) (fun s _ => 3 - textOf s)
  case atStart => exact ⟨⟨0, _, rfl, by simp [Hid], by show (Lib.decDigits sm).length = _; omega, by show (Lib.decDigits sm).length ≤ 3; omega⟩, rfl⟩
  case round =>
    obtain ⟨⟨j, T, rfl, hT, h1, h2⟩, hw⟩ := hrel
    rw [hw]
    clear hw
    by_cases hlt : T.size < 3
    · have hlt' : (T.size : Int) < 3 := by omega
      have hz : (⟨#[48]⟩ ++ T : ByteArray).size = 1 + T.size := by rw [ByteArray.size_append]; rfl
      go_wp2_with fail
      go_roundw
      case rel => exact ⟨⟨j + 1, _, rfl, by rw [hT.out]; exact pad_step _ _, by rw [hz]; omega, by rw [hz]; omega⟩, by first | rfl | trivial⟩
      case measure => simp only [textOf, hz]; omega
    · have hlt' : ¬ (T.size : Int) < 3 := by omega
      have hj : j = 3 - Lib.nDigits sm := by omega
      subst hj
      have hT' := hT.out
      rw [hpad.out] at hT'
      have HT' := Lib.hid hT'
      have hT3 : T.size = 3 := by omega
      clear hT hT' hlt hpad
      go_wp2_with fail
      go_ret
      exact ⟨ret_str (by rw [hAB.out, HT'.out, whole_end, hFR.out]), B6⟩
end Go.Proofs.YtokinnkagdjciaaGreatDoor.TagW
