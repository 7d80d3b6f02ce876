/- The walks of tag.three and tag.Encode. -/
import Derived.Test.YtckcnenhnniogaaDoorTagBody
import Derived.Test.YtckcnenhnniogaaDoorTagEncMath
import Derived.Test.YtckcnenhnniogaaDoorSumWalks
import Derived.Test.YtckcnenhnniogaaDoorBaseMark
set_option linter.unusedSimpArgs false
set_option linter.unusedVariables false
namespace Go.Proofs.YtckcnenhnniogaaDoor.TagW
open Go.RowKit Go.Proofs.YtckcnenhnniogaaDoor.Bas Go.Proofs.YtckcnenhnniogaaDoor.FixpW Go.Proofs.YtckcnenhnniogaaDoor.DecW Go.Proofs.YtckcnenhnniogaaDoor.FldW Go.Proofs.YtckcnenhnniogaaDoor.TagM

theorem elem8 : Elem Tryd.prog 25 5 (.int .u8 0) 1 1 := ⟨Tryd.underlying25, by kernel_rfl, rfl, by decide⟩
theorem strCells_u8 (s : ByteArray) : Lib.strCells s = u8s s.data.toList := rfl
theorem byteCells_u8 (l : List UInt8) : Lib.byteCells l = u8s l := rfl
theorem tail_ext (l : List UInt8) (b : UInt8) (n : Nat) (h : n = l.length + 1) : (⟨(b :: l).toArray⟩ : ByteArray).extract 1 n = ⟨l.toArray⟩ := by
  subst h
  apply ByteArray.ext
  simp [ByteArray.data_extract]
theorem three_calls (n : Nat) (w : World) (h : n < 256) (ht : Pow w) :
    Calls Tryd.prog 13 #[.int .i64 (n : Int)] w fun e w' => e = .returned (.string ⟨(DecM.low n 3).toArray⟩) ∧ Below w.heap.size w w' := by
  have HI := itoa_calls (1000 + n) w (by omega) ht
  rw [three_digits (by omega)] at HI
  have hl : (DecM.low n 3).length = 3 := DecM.low_len 3 n
  have he := tail_ext (DecM.low n 3) 49 4 (by rw [hl])
  generalize DecM.low n 3 = l at *
  have hw : IntKind.i64.wrap (1000 + (n : Int)) = ((1000 + n : Nat) : Int) := by rw [IntWalk.i64_in _ (by omega)]; omega
  have HI := Lib.hid HI
  go_enter Tryd.func13, Tryd.ntmps13
  go_wp2_with (go_at_call 12; refine HI.out.mono ?_; rintro e w2 ⟨rfl, b2⟩)
  go_ret
  exact ⟨rfl, b2⟩
theorem ownsM_nil (w : World) (base : Nat) (e : TypeId) : ownsM w base e (.slice none 0 0) 0 [] := ⟨rfl, .inl ⟨rfl, rfl⟩⟩
theorem body_bound {fs : List Fld} (h : validR fs = 0) : (bodyB fs).length ≤ 4096 ∧ ∀ f ∈ fs, rightF f = true := by
  cases fs with
  | nil => cases h
  | cons f r =>
    simp only [validR] at h
    by_cases h1 : f.1 ≠ 35 ∨ badF (f :: r) = true
    · rw [if_pos h1] at h; cases h
    · rw [if_neg h1] at h
      by_cases h2 : 4096 < (bodyB (f :: r)).length
      · rw [if_pos h2] at h; cases h
      · refine ⟨by omega, badF_false ?_⟩
        cases hb : badF (f :: r) with
        | false => rfl
        | true => exact absurd (.inr hb) h1
theorem ret_enc {c : List UInt8 × Int} {v : Value} {e : Int} (h : c.2 = e) : Ending.returned (.tuple #[v, .int .i64 e]) = .returned (.tuple #[v, .int .i64 c.2]) := by rw [h]
theorem own_str {w : World} {base : Nat} {e : TypeId} {v : Value} {S : ByteArray} {L : List UInt8} (h : ownsM w base e v S.size (Lib.strCells S)) (hS : S = ⟨L.toArray⟩) : ownsM w base e v L.length (u8s L) := by
  subst hS
  simpa [strCells_u8, ByteArray.size] using h
theorem own_app {w : World} {base n : Nat} {e : TypeId} {v : Value} {L M : List UInt8} (h : ownsM w base e v (L.length + n) (u8s L ++ u8s M)) (hn : n = M.length) : ownsM w base e v (L ++ M).length (u8s (L ++ M)) := by
  subst hn
  have : u8s (L ++ M) = u8s L ++ u8s M := by simp [u8s]
  rw [this, List.length_append]; exact h
def leadB (n : Nat) : List UInt8 := hdrB ++ [57, 61] ++ Lib.decDigits n ++ [1]
theorem lead_eq (n : Nat) : (⟨#[56, 61, 70, 73, 88, 46, 52, 46, 52, 1, 57, 61]⟩ ++ ⟨(Lib.decDigits n).toArray⟩ ++ ⟨#[1]⟩ : ByteArray) = ⟨(leadB n).toArray⟩ := by
  apply ByteArray.ext
  simp [leadB, hdrB]
theorem all_eq (B : List UInt8) : leadB B.length ++ B = allB B := rfl
theorem tailB_eq (n : Nat) : (⟨#[49, 48, 61]⟩ ++ ⟨(DecM.low n 3).toArray⟩ ++ ⟨#[1]⟩ : ByteArray) = ⟨([49, 48, 61] ++ DecM.low n 3 ++ [1]).toArray⟩ := by
  apply ByteArray.ext
  simp
theorem smallB_n (l : List UInt8) : SumM.smallN (SumW.nats l) = smallB l := rfl
set_option maxHeartbeats 2000000 in
set_option maxRecDepth 20000 in
theorem encode_calls (fs : List Fld) (a : Option Addr) (cap : Nat) (w : World) (hl : sumL fs ≤ 140737488355328) (hn : fs.length ≤ 140737488355328) (hat : At w a (fcells fs)) (ht : Pow w) :
    Calls Tryd.prog 6 #[.slice a fs.length cap] w fun e w' => ∃ v, e = .returned (.tuple #[v, .int .i64 (encodeR fs).2]) ∧ ownsM w' w.heap.size 5 v (encodeR fs).1.length (u8s (encodeR fs).1) ∧ Below w.heap.size w w' := by
  have HT := Lib.hid ht
  have HA := Lib.hid hat
  have C1 := fun W h hp => valid_calls fs a cap W hl hn h hp
  by_cases hv : validR fs = 0
  · have hR : encodeR fs = (frameB (bodyB fs), 0) := by unfold encodeR; rw [if_pos hv]
    rw [hR]
    obtain ⟨hb, hr⟩ := body_bound hv
    rw [hv] at C1
    have C2 := Lib.hid (fun W h hp => body_calls fs a cap W hl hn hr h hp)
    have C1 := Lib.hid C1
    have hfl := frame_len (bodyB fs) hb
    clear hR hv
    have HRr := Lib.hid hr
    clear hr HRr
    generalize bodyB fs = B at *
    have HI := Lib.hid (fun W h => itoa_calls B.length W (by omega) h)
    obtain ⟨A, hA⟩ : ∃ A, A = allB B := ⟨_, rfl⟩
    have hAl : A.length ≤ 4200 := by rw [hA]; unfold frameB at hfl; simp at hfl; omega
    have HAB := Lib.hid hA
    clear hA
    simp only
    go_enter Tryd.func6, Tryd.ntmps6
    go_upto_region 4 with (go_at_call 9; refine (C1.out _ HA.out HT.out).mono ?_; rintro e w1 ⟨rfl, b1⟩)
    clear C1
    go_upto_region 5 with (go_at_call 11; refine (C2.out _ (HA.out.keep b1) (HT.out.keep b1)).mono ?_; rintro e w2 ⟨v5, rfl, own5, b2⟩; obtain ⟨a5, c5, rfl, hc5, hn5, at5, _, ha5⟩ := at_of_owns own5; have B2 := b1.trans (b2.mono b1.size))
    clear C2 own5 b1 b2
    have hdl := digits_le B.length (by omega)
    go_upto_region 6 with (first
      | (go_at_call 12; refine (HI.out _ (HT.out.keep B2)).mono ?_; rintro e w3 ⟨rfl, b3⟩; have B3 := B2.trans (b3.mono B2.size); obtain ⟨v4, w4, hcv, own4, b4, hv4⟩ := run_bytes_M (P := Tryd.prog) w3 9 25 5 (⟨#[56, 61, 70, 73, 88, 46, 52, 46, 52, 1, 57, 61]⟩ ++ ⟨(Lib.decDigits B.length).toArray⟩ ++ ⟨#[1]⟩) Tryd.underlying9 Tryd.underlying25 Tryd.underlying5 (by rw [lead_eq]; simp [maxLen, leadB, hdrB, ByteArray.size]; omega) w.heap.size B3.size; have own4' := Lib.hid (own_str own4 (lead_eq _)); have at4 := Lib.hid ((at5.keep b3).keep b4); have B4 := B3.trans (b4.mono B3.size); clear own4 b3 b4)
      | (at_builtin; refine wpList_append_M _ rfl (.tmp 19) (.tmp 20) elem8 rfl w.heap.size v4 (leadB B.length).length (u8s (leadB B.length)) rfl own4'.out hv4 a5 B.length c5 (u8s B) rfl (u8s_len B) ha5 at4.out (one_u8 B) (by simp [maxLen, leadB, hdrB]; omega) (by simp [leadB, hdrB]; omega) B4.size ?_; intro v9 w9 own9 b9 hv9; have own9' := own_app own9 rfl; rw [all_eq] at own9'; have B9 := B4.trans b9; clear own9 b9))
    rw [← HAB.out] at own9'
    obtain ⟨a9, c9, rfl, hc9, hm9, at9⟩ := own9'.at_
    have O9 := Lib.hid own9'
    have CS := Lib.hid (fun W h => SumW.small_calls a9 c9 A W (by omega) h)
    simp only [smallB_n] at CS
    have hs := smallB_lt A
    have CT := Lib.hid (fun W h => three_calls (smallB A) W hs h)
    have htl := tailB_eq (smallB A)
    have hlo : (DecM.low (smallB A) 3).length = 3 := DecM.low_len 3 _
    have HFR := Lib.hid (show frameB B = A ++ ([49, 48, 61] ++ DecM.low (smallB A) 3 ++ [1]) by rw [HAB.out]; rfl)
    generalize smallB A = sm at *
    generalize DecM.low sm 3 = lo at *
    clear own9' HI own4' at4 at5 hcv B2 B3 B4 hv4 ha5 HA
    go_wp2_with (first
      | (go_at_call 14; refine (CS.out _ at9).mono ?_; rintro e w10 ⟨rfl, rfl⟩)
      | (go_at_call 13; refine (CT.out _ (HT.out.keep (B9.mono (Nat.le_refl _)))).mono ?_; rintro e w11 ⟨rfl, b11⟩; have B11 := B9.trans (b11.mono B9.size); have O11 := O9.out.below b11)
      | (at_builtin; refine wpList_append_M_string _ rfl (.tmp 22) (.tmp 27) elem8 Tryd.underlying9 rfl w.heap.size (.slice a9 A.length c9) A.length (u8s A) rfl O11 hv9 (⟨#[49, 48, 61]⟩ ++ ⟨lo.toArray⟩ ++ ⟨#[1]⟩) rfl (by rw [htl]; simp [maxLen, ByteArray.size]; omega) (by rw [htl]; simp [ByteArray.size]; omega) B11.size ?_; intro v12 w12 own12 b12 hv12; rw [htl] at own12; have own12' := own_app own12 (by simp [ByteArray.size]); have B12 := B11.trans b12))
    go_ret2
    exact ⟨_, rfl, by rw [HFR.out]; exact own12', B12⟩
  · have hR : encodeR fs = ([], validR fs) := by unfold encodeR; rw [if_neg hv]
    rw [hR]
    generalize validR fs = e at *
    have hne : (e != 0) = true := by simpa using hv
    have C1 := Lib.hid C1
    clear hv hR
    simp only
    go_enter Tryd.func6, Tryd.ntmps6
    go_wp2_with (go_at_call 9; refine (C1.out _ HA.out HT.out).mono ?_; rintro e w1 ⟨rfl, b1⟩)
    go_ret2
    exact ⟨_, rfl, ownsM_nil _ _ _, b1⟩
end Go.Proofs.YtckcnenhnniogaaDoor.TagW
