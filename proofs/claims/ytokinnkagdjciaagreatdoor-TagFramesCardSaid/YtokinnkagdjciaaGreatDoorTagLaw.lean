/- Layer 7's laws: long, the wakes. -/
import Derived.Test.YtokinnkagdjciaaGreatDoorTagWhole
import Derived.Test.YtokinnkagdjciaaGreatDoorTagArg
import Derived.Laws.BytesString
namespace Go.Proofs.YtokinnkagdjciaaGreatDoor.TagW
open Go.RowKit Go.Proofs.YtokinnkagdjciaaGreatDoor.Bas Go.Proofs.YtokinnkagdjciaaGreatDoor.FixpW Go.Proofs.YtokinnkagdjciaaGreatDoor.DecW Go.Proofs.YtokinnkagdjciaaGreatDoor.FldW Go.Proofs.YtokinnkagdjciaaGreatDoor.TagM

theorem sumL_succ {fs : List Fld} {k : Nat} (h : k < fs.length) : sumL (fs.take (k + 1)) = sumL (fs.take k) + (6 + fs[k].2.length) := by
  unfold sumL
  rw [List.take_succ_eq_append_getElem h, List.map_append, List.sum_append]
  simp
theorem sumL_len (fs : List Fld) : fs.length ≤ sumL fs := by
  unfold sumL
  induction fs with
  | nil => simp
  | cons f fs ih => simp only [List.map_cons, List.sum_cons, List.length_cons]; omega
theorem run_back_M {P : Program} {w W : World} {base : Nat} {e src dst : TypeId} {a : Option Addr} {cap : Nat} {L : List UInt8} (hs : P.underlying src = some (.slice e)) (he : P.underlying e = some (.int .u8)) (hd : P.underlying dst = some .string)
    (h : ownsM w base e (.slice a L.length cap) L.length (u8s L)) (hb : Below w.heap.size w W) : (convert src dst (.slice a L.length cap)).run P W = .ok (.string ⟨L.toArray⟩) W := by
  have h := h.below hb
  rcases h.2 with ⟨hv, hn⟩ | ⟨g, cap', cur, fz, hv, _⟩
  · obtain rfl : L = [] := List.eq_nil_of_length_eq_zero hn
    cases hv
    rw [run_convert_bytes_string W src dst e none _ _ hs he hd]
    simp [Conv.bytesToString]
    rfl
  · obtain ⟨a', c', hv', _, _, hat⟩ := h.at_
    cases hv
    cases hv'
    refine run_convert_bytes_back W src dst e ⟨g, 0, none⟩ _ L hs he hd (fun j hj => ?_)
    obtain ⟨b, off, e2, hc⟩ := hat j _ (u8s_get L j hj)
    cases e2
    rw [add0]; exact hc
def wakeL : List Fld := [(35, [68]), (11, [55])]
def wakeF : List UInt8 := [56, 61, 70, 73, 88, 46, 52, 46, 52, 1, 57, 61, 49, 48, 1, 51, 53, 61, 68, 1, 49, 49, 61, 55, 1, 49, 48, 61, 49, 56, 54, 1]
theorem wake_body : bodyB wakeL = [51, 53, 61, 68, 1, 49, 49, 61, 55, 1] := by
  unfold bodyB wakeL fieldB
  simp only [List.flatMap_cons, List.flatMap_nil]
  rw [show (35 : Int).toNat = 35 from rfl, show (11 : Int).toNat = 11 from rfl, Lib.decDigits_two (by decide) (by decide), Lib.decDigits_two (by decide) (by decide)]
  rfl
theorem wake_valid : validR wakeL = 0 := by
  have : (bodyB wakeL).length = 10 := by rw [wake_body]; rfl
  unfold wakeL at this ⊢
  simp only [validR]
  rw [if_neg (by decide), if_neg (by omega)]
theorem wake_frame : encodeR wakeL = (wakeF, 0) := by
  unfold encodeR
  rw [if_pos wake_valid, wake_body]
  have h : allB [51, 53, 61, 68, 1, 49, 49, 61, 55, 1] = [56, 61, 70, 73, 88, 46, 52, 46, 52, 1, 57, 61, 49, 48, 1, 51, 53, 61, 68, 1, 49, 49, 61, 55, 1] := by
    unfold allB hdrB
    rw [show ([51, 53, 61, 68, 1, 49, 49, 61, 55, 1] : List UInt8).length = 10 from rfl, Lib.decDigits_two (by decide) (by decide)]
    rfl
  unfold frameB
  rw [h]
  decide
set_option maxHeartbeats 1000000 in
set_option maxRecDepth 20000 in
theorem wakeT_calls (w : World) (ht : Pow w) : Calls Tryz.prog 5 #[] w fun e w' => e = .returned (.bool true) ∧ Below w.heap.size w w' := by
  have C1 := fun a cap W h hp => encode_calls wakeL a cap W (by decide) (by decide) h hp
  rw [wake_frame] at C1
  have C1 := Lib.hid C1
  have HT := Lib.hid ht
  clear ht
  go_enter Tryz.func5, Tryz.ntmps5
  have B0 := (Below.refl w.heap.size w).alloc (Nat.le_refl _) (.cells (fcells wakeL).toArray 43)
  have A0 := at_alloc w (fcells wakeL).toArray 43 (0, 0)
  go_wp2_with (go_at_call 12; refine (C1.out _ _ _ A0 (HT.out.keep B0)).mono ?_; rintro e w1 ⟨v, rfl, own, b1⟩; obtain ⟨a1, c1, rfl, _, _, _⟩ := own.at_; have hb := run_back_M (P := Tryz.prog) (src := 22) (dst := 9) Tryz.underlying22 Tryz.underlying5 Tryz.underlying9 own (Below.refl _ w1); have B1 := B0.trans (b1.mono B0.size))
  go_ret
  exact ⟨ret_bool (by decide), B1⟩
end Go.Proofs.YtokinnkagdjciaaGreatDoor.TagW
