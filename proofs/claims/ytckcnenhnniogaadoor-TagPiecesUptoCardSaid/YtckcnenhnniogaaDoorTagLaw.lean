/- Layer 7's laws: long, the wakes. -/
import Derived.Test.YtckcnenhnniogaaDoorTagWhole
import Derived.Test.YtckcnenhnniogaaDoorTagArg
import Derived.Laws.BytesString
set_option linter.unusedSimpArgs false
set_option linter.unusedVariables false
namespace Go.Proofs.YtckcnenhnniogaaDoor.TagW
open Go.RowKit Go.Proofs.YtckcnenhnniogaaDoor.Bas Go.Proofs.YtckcnenhnniogaaDoor.FixpW Go.Proofs.YtckcnenhnniogaaDoor.DecW Go.Proofs.YtckcnenhnniogaaDoor.FldW Go.Proofs.YtckcnenhnniogaaDoor.TagM

theorem sumL_succ {fs : List Fld} {k : Nat} (h : k < fs.length) : sumL (fs.take (k + 1)) = sumL (fs.take k) + (6 + fs[k].2.length) := by
  unfold sumL
  rw [List.take_succ_eq_append_getElem h, List.map_append, List.sum_append]
  simp
theorem sumL_len (fs : List Fld) : fs.length ≤ sumL fs := by
  unfold sumL
  induction fs with
  | nil => simp
  | cons f fs ih => simp only [List.map_cons, List.sum_cons, List.length_cons]; omega
set_option maxHeartbeats 1000000 in
theorem long_calls (fs : List Fld) (a : Option Addr) (cap : Nat) (w : World) (hl : fs.length ≤ 140737488351232) (hok : ∀ f ∈ fs, f.2.length ≤ 140737488351232) (hat : At w a (fcells fs)) :
    Calls Tryd.prog 5 #[.slice a fs.length cap] w fun e w' => e = .returned (.bool (decide (32768 < sumL fs))) ∧ Below w.heap.size w w' := by
  have HO := Lib.hid hok
  clear hok
  go_enter Tryd.func5, Tryd.ntmps5
  go_wp2_with fail
  go_loopw [3, 8] (fun s i wr => ∃ k : Nat, k ≤ fs.length ∧ s = .int .i64 (sumL (fs.take k) : Int) ∧ i = .int .i64 k ∧ sumL (fs.take k) ≤ 32768 ∧ At wr a (fcells fs) ∧ Below w.heap.size w wr) (fun _ i _ => fs.length - (intOf i).toNat)
  case atStart => exact ⟨0, by omega, rfl, rfl, by simp [sumL], hat, Below.refl _ _⟩
  case round =>
    obtain ⟨k, hk, rfl, rfl, ht, hA, hB⟩ := hrel
    by_cases hlt : k < fs.length
    · obtain ⟨b, off, rfl, c0, c1⟩ := fld_at hA k hlt
      have hs := sumL_succ hlt
      have hle := sumL_take fs (k + 1)
      have hm := HO.out _ (List.getElem_mem hlt)
      have HA := Lib.hid hA
      have hz := hB.size
      have HB := Lib.hid hB
      clear hA hB
      generalize fs[k] = f at *
      obtain ⟨f1, f2⟩ := f
      simp only at c0 c1 hs hm
      generalize sumL (fs.take k) = T at *
      have hw1 : IntKind.i64.wrap (6 + (f2.length : Int)) = 6 + (f2.length : Int) := IntWalk.i64_in _ (by omega)
      have hw2 : IntKind.i64.wrap ((T : Int) + (6 + (f2.length : Int))) = (T : Int) + (6 + (f2.length : Int)) := IntWalk.i64_in _ (by omega)
      by_cases h : 32768 < T + (6 + f2.length)
      · have h' : (32768 : Int) < (T : Int) + (6 + (f2.length : Int)) := by omega
        have HR := Lib.hid (show 32768 < sumL fs by omega)
        clear hs h hle ht hm
        go_wp2_with fail
        go_ret
        exact ⟨by simpa using HR.out, HB.out.alloc HB.out.size _⟩
      · have h' : ¬ (32768 : Int) < (T : Int) + (6 + (f2.length : Int)) := by omega
        have HS := Lib.hid hs
        have hle2 : T + (6 + f2.length) ≤ 32768 := by omega
        clear hs h hle ht
        go_wp2_with fail
        go_roundw
        case rel => exact ⟨k + 1, by omega, by rw [HS.out]; go_num, by go_num, by rw [HS.out]; exact hle2, HA.out.keep ((Below.refl _ _).alloc (Nat.le_refl _) _), HB.out.alloc HB.out.size _⟩
        case measure => simp [intOf]; omega
    · have hkk : k = fs.length := by omega
      subst hkk
      rw [List.take_length] at ht
      have hf : ¬ 32768 < sumL fs := by omega
      have HR := Lib.hid hf
      clear ht hf
      go_wp2_with fail
      go_ret
      exact ⟨by simpa using HR.out, hB⟩
theorem run_back_M {P : Program} {w W : World} {base : Nat} {e src dst : TypeId} {a : Option Addr} {cap : Nat} {L : List UInt8} (hs : P.underlying src = some (.slice e)) (he : P.underlying e = some (.int .u8)) (hd : P.underlying dst = some .string)
    (h : ownsM w base e (.slice a L.length cap) L.length (u8s L)) (hb : Below w.heap.size w W) : (convert src dst (.slice a L.length cap)).run P W = .ok (.string ⟨L.toArray⟩) W := by
  have h := h.below hb
  rcases h.2 with ⟨hv, hn⟩ | ⟨g, cap', cur, fz, hv, _⟩
  · obtain rfl : L = [] := List.eq_nil_of_length_eq_zero hn
    cases hv
    rw [run_convert_bytes_string W src dst e none _ _ hs he hd]
    simp [Conv.bytesToString]
    rfl
  · obtain ⟨a', c', hv', _, _, hat⟩ := h.at_
    cases hv
    cases hv'
    refine run_convert_bytes_back W src dst e ⟨g, 0, none⟩ _ L hs he hd (fun j hj => ?_)
    obtain ⟨b, off, e2, hc⟩ := hat j _ (u8s_get L j hj)
    cases e2
    rw [add0]; exact hc
def wakeL : List Fld := [(35, [68]), (11, [55])]
def wakeF : List UInt8 := [56, 61, 70, 73, 88, 46, 52, 46, 52, 1, 57, 61, 49, 48, 1, 51, 53, 61, 68, 1, 49, 49, 61, 55, 1, 49, 48, 61, 49, 56, 54, 1]
theorem wake_body : bodyB wakeL = [51, 53, 61, 68, 1, 49, 49, 61, 55, 1] := by
  unfold bodyB wakeL fieldB
  simp only [List.flatMap_cons, List.flatMap_nil]
  rw [show (35 : Int).toNat = 35 from rfl, show (11 : Int).toNat = 11 from rfl, Lib.decDigits_two (by decide) (by decide), Lib.decDigits_two (by decide) (by decide)]
  rfl
theorem wake_valid : validR wakeL = 0 := by
  have : (bodyB wakeL).length = 10 := by rw [wake_body]; rfl
  unfold wakeL at this ⊢
  simp only [validR]
  rw [if_neg (by decide), if_neg (by omega)]
theorem wake_frame : encodeR wakeL = (wakeF, 0) := by
  unfold encodeR
  rw [if_pos wake_valid, wake_body]
  have h : allB [51, 53, 61, 68, 1, 49, 49, 61, 55, 1] = [56, 61, 70, 73, 88, 46, 52, 46, 52, 1, 57, 61, 49, 48, 1, 51, 53, 61, 68, 1, 49, 49, 61, 55, 1] := by
    unfold allB hdrB
    rw [show ([51, 53, 61, 68, 1, 49, 49, 61, 55, 1] : List UInt8).length = 10 from rfl, Lib.decDigits_two (by decide) (by decide)]
    rfl
  unfold frameB
  rw [h]
  decide
set_option maxHeartbeats 1000000 in
set_option maxRecDepth 20000 in
theorem wakeT_calls (w : World) (ht : Pow w) : Calls Tryd.prog 4 #[] w fun e w' => e = .returned (.bool true) ∧ Below w.heap.size w w' := by
  have C1 := fun a cap W h hp => encode_calls wakeL a cap W (by decide) (by decide) h hp
  rw [wake_frame] at C1
  have C1 := Lib.hid C1
  have HT := Lib.hid ht
  clear ht
  go_enter Tryd.func4, Tryd.ntmps4
  have B0 := (Below.refl w.heap.size w).alloc (Nat.le_refl _) (.cells (fcells wakeL).toArray 39)
  have A0 := at_alloc w (fcells wakeL).toArray 39 (0, 0)
  go_wp2_with (go_at_call 6; refine (C1.out _ _ _ A0 (HT.out.keep B0)).mono ?_; rintro e w1 ⟨v, rfl, own, b1⟩; obtain ⟨a1, c1, rfl, _, _, _⟩ := own.at_; have hb := run_back_M (P := Tryd.prog) (src := 25) (dst := 9) Tryd.underlying25 Tryd.underlying5 Tryd.underlying9 own (Below.refl _ w1); have B1 := B0.trans (b1.mono B0.size))
  go_ret
  exact ⟨ret_bool (by decide), B1⟩
end Go.Proofs.YtckcnenhnniogaaDoor.TagW
