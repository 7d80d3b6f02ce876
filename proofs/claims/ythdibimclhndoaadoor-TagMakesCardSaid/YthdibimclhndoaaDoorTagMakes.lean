/- TagMakes: the walk, and the step from the law's arguments to it. -/
import Derived.Test.YthdibimclhndoaaDoorTagLaw
namespace Go.Proofs.YthdibimclhndoaaDoor.tagMakes
open Go.ChangeShapes Go.WideShapes Go.ChangeAt Go.RowKit Go.Proofs.YthdibimclhndoaaDoor.Bas Go.Proofs.YthdibimclhndoaaDoor.FixpW Go.Proofs.YthdibimclhndoaaDoor.DecW Go.Proofs.YthdibimclhndoaaDoor.FldW Go.Proofs.YthdibimclhndoaaDoor.TagM Go.Proofs.YthdibimclhndoaaDoor.TagW

set_option maxHeartbeats 2000000 in
set_option maxRecDepth 20000 in
theorem walk (fs : List Fld) (a : Option Addr) (cap : Nat) (w : World) (hl : fs.length ≤ 5864062014806) (hok : ∀ f ∈ fs, f.2.length ≤ 140737488351232) (hat : At w a (fcells fs)) (ht : Pow w) :
    Calls Tryd.prog 3 #[.slice a fs.length cap] w fun e w' => e = .returned (.bool true) ∧ Below w.heap.size w w' := by
  have C0 := Lib.hid (wakeT_calls w ht)
  have C1 := Lib.hid (fun W h => long_calls fs a cap W (by omega) hok h)
  have HT := Lib.hid ht
  have HA := Lib.hid hat
  by_cases hbig : 32768 < sumL fs
  · rw [decide_eq_true hbig] at C1
    clear hbig
    go_enter Tryd.func3, Tryd.ntmps3
    go_wp2_with (first
      | (go_at_call 4; refine C0.out.mono ?_; rintro e w1 ⟨rfl, b1⟩)
      | (go_at_call 5; refine (C1.out _ (HA.out.keep b1)).mono ?_; rintro e w2 ⟨rfl, b2⟩))
    go_ret
    exact ⟨rfl, b1.trans (b2.mono b1.size)⟩
  · rw [decide_eq_false hbig] at C1
    have E1 := fun W h hp => encode_calls fs a cap W (by omega) (by omega) h hp
    have E2 := fun W h hp => rencode_calls fs a cap W (by omega) (by omega) hok h hp
    have V1 := Lib.hid (fun W h hp => valid_calls fs a cap W (by omega) (by omega) h hp)
    have V2 := Lib.hid (fun W h hp => rvalid_calls fs a cap W (by omega) (by omega) hok h hp)
    generalize encodeR fs = er at E1 E2
    obtain ⟨F, fe⟩ := er
    simp only at E1 E2
    have E1 := Lib.hid E1
    have E2 := Lib.hid E2
    generalize validR fs = vr at *
    clear hbig hat ht hok
    go_enter Tryd.func3, Tryd.ntmps3
    go_upto_region 5 with (first
      | (go_at_call 4; refine C0.out.mono ?_; rintro e w1 ⟨rfl, b1⟩)
      | (go_at_call 5; refine (C1.out _ (HA.out.keep b1)).mono ?_; rintro e w2 ⟨rfl, b2⟩; have B2 := b1.trans (b2.mono b1.size)))
    clear C0 C1 b1 b2
    go_upto_region 7 with (first
      | (go_at_call 6; refine (E1.out _ (HA.out.keep B2) (HT.out.keep B2)).mono ?_; rintro e w3 ⟨v3, rfl, own3, b3⟩; have B3 := B2.trans (b3.mono B2.size); clear E1)
      | (go_at_call 7; refine (E2.out _ (HA.out.keep B3) (HT.out.keep B3)).mono ?_; rintro e w4 ⟨v4, rfl, own4, b4⟩; have B4 := B3.trans (b4.mono B3.size); clear E2))
    obtain ⟨a3, c3, rfl, _, _, _⟩ := own3.at_
    obtain ⟨a4, c4, rfl, _, _, _⟩ := own4.at_
    have r3 := run_back_M (P := Tryd.prog) (src := 25) (dst := 9) Tryd.underlying25 Tryd.underlying5 Tryd.underlying9 own3 b4
    have r4 := run_back_M (P := Tryd.prog) (src := 25) (dst := 9) Tryd.underlying25 Tryd.underlying5 Tryd.underlying9 own4 (Below.refl _ w4)
    clear own3 own4 b3 b4 B2 B3
    go_wp2_with (first
      | (go_at_call 8; refine (V1.out _ (HA.out.keep B4) (HT.out.keep B4)).mono ?_; rintro e w5 ⟨rfl, b5⟩; have B5 := B4.trans (b5.mono B4.size))
      | (go_at_call 9; refine (V2.out _ (HA.out.keep B5) (HT.out.keep B5)).mono ?_; rintro e w6 ⟨rfl, b6⟩; have B6 := B5.trans (b6.mono B5.size)))
    go_ret
    exact ⟨ret_bool (by simp), B6⟩
set_option maxRecDepth 100000 in
theorem opened (H : Type) (enc : TypeId × Value → H) (W : World) (base : Nat) (args : Array Value) (ds : List (DataW H)) (p : List MemPlace)
    (hval : ∀ (j : Nat) t v, Tryd.f3.params[j]? = some t → args[j]? = some v → Value.okWide Tryd.prog W .any base t v)
    (hA : DataW.TrodAll enc Tryd.prog W 0 (fun _ => true) true Tryd.f3.params.toList args.toList ds p)
    (hr : ∀ x ∈ DataW.weightsEach Tryd.prog Tryd.f3.params.toList ds, x ≤ reachBytes)
    (hL : laidMetH Tryd.prog Rows.tagMakesRow.laid W) :
    Calls Tryd.prog 3 args W fun e W' => e = .returned (.bool true) ∧ Below W.heap.size W W' := by
  rw [Tryd.params3] at hA hval hr
  obtain ⟨v0, vs0, d0, ds0, p0, q0, hargs, rfl, rfl, h0, r0⟩ := trodAll_cons hA
  obtain ⟨rfl, rfl, rfl⟩ := trodAll_nil r0
  obtain rfl : args = #[v0] := by cases args; simp_all
  obtain ⟨a, fs, cap, rfl, hat, hc, hm, hok⟩ := open_fieldsArg (hval 0 22 v0 rfl rfl) h0 (fun x hx => hr x (by simp [DataW.weightsEach, hx]))
  exact walk fs a cap W (by omega) (fun f hf => (hok f hf).2) hat (pow_laidT hL)
end Go.Proofs.YthdibimclhndoaaDoor.tagMakes
