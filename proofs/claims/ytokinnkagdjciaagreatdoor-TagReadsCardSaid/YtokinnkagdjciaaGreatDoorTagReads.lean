/- TagReads: the walk, and the step from the law's arguments to it. -/
import Derived.Test.YtokinnkagdjciaaGreatDoorTagRDecode
import Derived.Test.YtokinnkagdjciaaGreatDoorTagOpen
import Derived.Test.YtokinnkagdjciaaGreatDoorTagLaw
import Derived.Test.YtokinnkagdjciaaGreatDoorBaseFld
namespace Go.Proofs.YtokinnkagdjciaaGreatDoor.tagReads
open Go.ChangeShapes Go.WideShapes Go.ChangeAt Go.RowKit Go.Proofs.YtokinnkagdjciaaGreatDoor.Bas Go.Proofs.YtokinnkagdjciaaGreatDoor.FixpW Go.Proofs.YtokinnkagdjciaaGreatDoor.DecW Go.Proofs.YtokinnkagdjciaaGreatDoor.FldW Go.Proofs.YtokinnkagdjciaaGreatDoor.TagM Go.Proofs.YtokinnkagdjciaaGreatDoor.TagW

set_option maxHeartbeats 2000000 in
set_option maxRecDepth 20000 in
theorem walk (bs : List UInt8) (a : Option Addr) (cap : Nat) (w : World) (hbl : bs.length ≤ cap) (hb63 : bs.length ≤ 140737488351232) (hat : At w a (u8s bs)) (E : Env w) :
    Calls Tryz.prog 3 #[.slice a bs.length cap] w fun e w' => e = .returned (.bool true) ∧ Below w.heap.size w w' := by
  have C0 := Lib.hid (wakeT_calls w E.pw)
  have HE := Lib.hid E
  have HB := Lib.hid hat
  by_cases hb8 : 8192 < bs.length
  · have hbI : (8192 : Int) < (bs.length : Int) := by omega
    clear hb8 hat E
    go_enter Tryz.func3, Tryz.ntmps3
    go_wp2_with (go_at_call 5; refine C0.out.mono ?_; rintro e w1 ⟨rfl, b1⟩)
    go_ret
    exact ⟨rfl, b1⟩
  · have hbI : ¬ (8192 : Int) < (bs.length : Int) := by omega
    have D1 := fun W h E => tdecode_calls bs a cap W (by omega) hbl h E
    have D2 := fun W h E => rdecode_calls bs a cap W (by omega) h E
    have D3 : (decodeR bs).1.1.length ≤ 16384 := by
      by_cases h : (decodeR bs).2 = 0
      · obtain ⟨h1, h2, h3, h4⟩ := decode_ok (s := bs) (fs := (decodeR bs).1.1) (n := (decodeR bs).1.2) (by rw [← h])
        have h5 := (valid_iff.1 h1).2
        have h6 : (decodeR bs).1.1.length ≤ (bodyB (decodeR bs).1.1).length := by
          have : ∀ fs : List Fld, fs.length ≤ (bodyB fs).length := by
            intro fs
            induction fs with
            | nil => exact Nat.le_refl _
            | cons f fs ih =>
              rw [bodyB_cons, List.length_cons, List.length_append]
              have : 1 ≤ (fieldB f).length := by unfold fieldB; simp; omega
              omega
          exact this _
        omega
      · have h7 := (decode_bad (s := bs) (fs := (decodeR bs).1.1) (n := (decodeR bs).1.2) (e := (decodeR bs).2) rfl h).1; rw [h7]; exact Nat.zero_le _
    unfold DecV at D1 D2
    generalize decodeR bs = dr at *
    obtain ⟨⟨fs, m⟩, er⟩ := dr
    simp only at D1 D2 D3
    have SM := Lib.hid (fun (a b : Option Addr) (ca cb : Nat) W h1 h2 => same_calls a b ca cb fs fs W (by omega) (by omega) h1 h2)
    have D1 := Lib.hid D1
    have D2 := Lib.hid D2
    clear hb8 hat E
    go_enter Tryz.func3, Tryz.ntmps3
    go_upto_region 6 with (first
      | (go_at_call 5; refine C0.out.mono ?_; rintro e w1 ⟨rfl, b1⟩)
      | (go_at_call 6; refine (D1.out _ (HB.out.keep b1) (HE.out.keep b1)).mono ?_; rintro e w2 ⟨⟨v2, rfl, own2⟩, b2⟩; have B2 := b1.trans (b2.mono b1.size)))
    obtain ⟨a2, c2, rfl, _, _, at2, _, _⟩ := at_of_owns own2
    have AT2 := Lib.hid at2
    clear C0 D1 b1 b2 own2 at2
    go_upto_region 7 with (go_at_call 7; refine (D2.out _ (HB.out.keep B2) (HE.out.keep B2)).mono ?_; rintro e w3 ⟨⟨v3, rfl, own3⟩, b3⟩; have B3 := B2.trans (b3.mono B2.size))
    obtain ⟨a3, c3, rfl, _, _, at3, _, _⟩ := at_of_owns own3
    have AT3 := Lib.hid at3
    have AT2' := Lib.hid (AT2.out.keep b3)
    clear D2 B2 b3 own3 at3 AT2
    go_wp2_with (go_at_call 8; refine (SM.out _ _ _ _ _ AT2'.out AT3.out).mono ?_; rintro e w4 ⟨rfl, n4, hw4⟩; have B4 : Below w.heap.size w w4 := hw4 ▸ below_drewN B3 n4; clear hw4)
    go_ret
    exact ⟨ret_bool (by simp), B4⟩
theorem cells8 : Tryz.prog.cellsOf 5 = 1 := by kernel_rfl
theorem bytes8 : Tryz.prog.bytesOf 5 = 1 := by kernel_rfl
set_option maxRecDepth 100000 in
theorem opened (H : Type) (enc : TypeId × Value → H) (W : World) (base : Nat) (args : Array Value) (ds : List (DataW H)) (p : List MemPlace)
    (hval : ∀ (j : Nat) t v, Tryz.f3.params[j]? = some t → args[j]? = some v → Value.okWide Tryz.prog W .any base t v)
    (hA : DataW.TrodAll enc Tryz.prog W 0 (fun _ => true) true Tryz.f3.params.toList args.toList ds p)
    (hr : ∀ x ∈ DataW.weightsEach Tryz.prog Tryz.f3.params.toList ds, x ≤ reachBytes)
    (hL : laidMetH Tryz.prog Rows.tagReadsRow.laid W) (hS : W.ShapedOpen Tryz.prog) :
    Calls Tryz.prog 3 args W fun e W' => e = .returned (.bool true) ∧ Below W.heap.size W W' := by
  rw [Tryz.params3] at hA hval hr
  obtain ⟨v0, vs0, d0, ds0, p0, q0, hargs, rfl, rfl, h0, r0⟩ := trodAll_cons hA
  obtain ⟨rfl, rfl, rfl⟩ := trodAll_nil r0
  obtain rfl : args = #[v0] := by cases args; simp_all
  obtain ⟨a, l, cap, rfl, hat, hl, hm, hd⟩ := open_u8 Tryz.underlying22 Tryz.underlying5 cells8 (hval 0 22 v0 rfl rfl) h0
  have hreach := reach_slice (n := l.length) (cap := cap) Tryz.underlying22 hd (fun x hx => hr x (weights_each (i := 0) rfl rfl x hx))
  rw [bytes8] at hreach
  exact walk l a cap W hl (by omega) hat (env_laid hL hS)
end Go.Proofs.YtokinnkagdjciaaGreatDoor.tagReads
