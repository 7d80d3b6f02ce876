/- TagTells: the walk, and the step from the law's arguments to it. -/
import Derived.Test.YtokinnkagdjciaaDoorTagDecode
import Derived.Test.YtokinnkagdjciaaDoorTagTellsMath
import Derived.Test.YtokinnkagdjciaaDoorTagOpen
import Derived.Test.YtokinnkagdjciaaDoorTagLaw
namespace Go.Proofs.YtokinnkagdjciaaDoor.tagTells
open Go.ChangeShapes Go.WideShapes Go.ChangeAt Go.RowKit Go.Proofs.YtokinnkagdjciaaDoor.Bas Go.Proofs.YtokinnkagdjciaaDoor.FixpW Go.Proofs.YtokinnkagdjciaaDoor.DecW Go.Proofs.YtokinnkagdjciaaDoor.FldW Go.Proofs.YtokinnkagdjciaaDoor.TagM Go.Proofs.YtokinnkagdjciaaDoor.TagW

theorem xor_ne {x m : UInt8} (h : m ≠ 0) : x ^^^ m ≠ x := by
  intro e
  apply h
  have := congrArg (fun y => x ^^^ y) e
  simpa [← UInt8.xor_assoc] using this
/-- what stands in the turned frame -/
theorem turned {fs : List Fld} {k : Nat} {m : UInt8} (hk : k < (frameB (bodyB fs)).length) (hm : m ≠ 0) {x : List UInt8} (hx : x = (frameB (bodyB fs)).set k ((frameB (bodyB fs))[k] ^^^ m)) : (decodeR x).2 = 0 → (decodeR x).1.2 ≠ (frameB (bodyB fs)).length := by
  intro h
  refine decode_turned hk (x := (frameB (bodyB fs))[k] ^^^ m) (xor_ne hm) (gs := (decodeR x).1.1) (n := (decodeR x).1.2) ?_
  rw [← hx, ← h]
set_option maxHeartbeats 4000000 in
set_option maxRecDepth 20000 in
theorem walk (fs : List Fld) (a : Option Addr) (cap : Nat) (p : Int) (m : UInt8) (w : World) (hl : fs.length ≤ 5864062014806) (hok : ∀ f ∈ fs, f.2.length ≤ 140737488351232) (hat : At w a (fcells fs)) (E : Env w) :
    Calls Tryd.prog 4 #[.slice a fs.length cap, .int .i64 p, .int .u8 (m.toNat : Int)] w fun e w' => e = .returned (.bool true) ∧ Below w.heap.size w w' := by
  have C0 := Lib.hid (wakeT_calls w E.pw)
  have C1 := Lib.hid (fun W h => long_calls fs a cap W (by omega) hok h)
  have HE := Lib.hid E
  have HA := Lib.hid hat
  by_cases hbig : 32768 < sumL fs
  · rw [decide_eq_true hbig] at C1
    clear hbig
    go_enter Tryd.func4, Tryd.ntmps4
    go_wp2_with (first
      | (go_at_call 7; refine C0.out.mono ?_; rintro e w1 ⟨rfl, b1⟩)
      | (go_at_call 8; refine (C1.out _ (HA.out.keep b1)).mono ?_; rintro e w2 ⟨rfl, b2⟩))
    go_ret
    exact ⟨rfl, b1.trans (b2.mono b1.size)⟩
  · rw [decide_eq_false hbig] at C1
    have E1 := fun W h hp => encode_calls fs a cap W (by omega) (by omega) h hp
    by_cases hv : validR fs = 0
    · have hR : encodeR fs = (frameB (bodyB fs), 0) := by unfold encodeR; rw [if_pos hv]
      rw [hR] at E1
      obtain ⟨hb, _⟩ := valid_iff.1 hv
      have hfl := frame_len (bodyB fs) (valid_iff.1 hv).2
      have HD := decode_frame hv []
      rw [List.append_nil] at HD
      have HTu := fun k hk hm x hx => turned (fs := fs) (k := k) (m := m) hk hm (x := x) hx
      generalize frameB (bodyB fs) = F at *
      simp only at E1
      have E1 := Lib.hid E1
      have HD := Lib.hid HD
      have HTu := Lib.hid HTu
      clear hR hv hb hbig hat E hok
      go_enter Tryd.func4, Tryd.ntmps4
      go_upto_region 5 with (first
        | (go_at_call 7; refine C0.out.mono ?_; rintro e w1 ⟨rfl, b1⟩)
        | (go_at_call 8; refine (C1.out _ (HA.out.keep b1)).mono ?_; rintro e w2 ⟨rfl, b2⟩; have B2 := b1.trans (b2.mono b1.size)))
      clear C0 C1 b1 b2
      go_upto_region 8 with (go_at_call 9; refine (E1.out _ (HA.out.keep B2) (HE.out.pw.keep B2)).mono ?_; rintro e w3 ⟨v3, rfl, own3, b3⟩; have B3 := B2.trans (b3.mono B2.size); have hz2 := B2.size; clear E1)
      clear HA B2 b3
      obtain ⟨a3, c3, rfl, hc3, hm3, at3⟩ := own3.at_
      by_cases hin : (0 ≤ p ∧ p < (F.length : Int)) ∧ m ≠ 0
      · obtain ⟨⟨h0, h1⟩, hm⟩ := hin
        obtain ⟨k, rfl⟩ := Int.eq_ofNat_of_zero_le h0
        have hk : k < F.length := by omega
        obtain ⟨g, rfl⟩ : ∃ g, a3 = some ⟨g, 0, none⟩ := by
          rcases own3.2 with ⟨hv, hn⟩ | ⟨g, _, _, _, hv, _⟩
          · omega
          · exact ⟨g, by cases hv; rfl⟩
        have hwg : w.heap.size ≤ g := Nat.le_trans hz2 (own3.lt g rfl)
        obtain ⟨hcell, hfro, own4⟩ := own3.stored8 hk (F[k] ^^^ m)
        obtain ⟨x, hx⟩ : ∃ x, x = F.set k (F[k] ^^^ m) := ⟨_, rfl⟩
        rw [← hx] at own4
        have hxl : x.length = F.length := by rw [hx, List.length_set]
        have HN := Lib.hid (HTu.out k hk hm x hx)
        have hFk : F[k].toNat < 256 := F[k].toNat_lt
        have hml : m.toNat < 256 := m.toNat_lt
        have e1 : bits .xor .u8 (F[k].toNat : Int) (m.toNat : Int) = ((F[k] ^^^ m).toNat : Int) := by rw [u8_xor_nat _ _ hFk hml, UInt8.toNat_xor]
        have hmz : (m.toNat : Int) ≠ 0 := by
          intro h
          apply hm
          apply UInt8.toNat_inj.1
          have : (0 : UInt8).toNat = 0 := rfl
          omega
        have B4 := B3.setCell (p := ⟨g, k, none⟩) hwg (.int .u8 ((F[k] ^^^ m).toNat : Int))
        obtain ⟨a4, c4, hv4, _, _, at4⟩ := own4.at_
        injection hv4 with e4 e5 e6
        clear e5 e6
        subst e4
        have D := fun W h E => tdecode_calls x (some ⟨g, 0, none⟩) c3 W (by omega) (by omega) h E
        rw [hxl] at D
        unfold DecV at D
        generalize decodeR x = dr at *
        obtain ⟨⟨gs, n⟩, er⟩ := dr
        simp only at D HN
        have D := Lib.hid D
        have AT4 := Lib.hid at4
        clear own3 own4 at4 at3 hx HTu HD hm
        have B4 := Lib.hid B4
        generalize (F[k] ^^^ m).toNat = Z at *
        generalize F[k] = y at *
        have hIk : (k : Int) < (F.length : Int) := by omega
        have hm0 : ((m.toNat : Int) == 0) = false := by simp only [beq_eq_false_iff_ne]; exact hmz
        clear hmz hFk hml h0 h1
        go_upto_region 12 with fail
        generalize w3.setCell ⟨g, k, none⟩ (.int .u8 (Z : Int)) = w4 at *
        by_cases he : er = 0
        · have hne : ¬ (n : Int) = (F.length : Int) := by have := HN.out he; omega
          subst he
          clear HN
          go_wp2_with (go_at_call 10; refine (D.out _ AT4.out (HE.out.keep B4.out)).mono ?_; rintro e w5 ⟨⟨v5, rfl, own5⟩, b5⟩)
          go_ret
          exact ⟨ret_bool (by simpa using hne), B4.out.trans (b5.mono B4.out.size)⟩
        · clear HN
          go_wp2_with (go_at_call 10; refine (D.out _ AT4.out (HE.out.keep B4.out)).mono ?_; rintro e w5 ⟨⟨v5, rfl, own5⟩, b5⟩)
          go_ret
          exact ⟨ret_bool (by simp), B4.out.trans (b5.mono B4.out.size)⟩
      · have D := fun W h E => tdecode_calls F a3 c3 W (by omega) (by omega) h E
        unfold DecV at D
        rw [HD.out] at D
        simp only at D
        have D := Lib.hid D
        have O3 := Lib.hid at3
        clear at3 HTu HD own3
        by_cases h0 : p < 0
        · clear hin
          go_wp2_with (go_at_call 10; refine (D.out _ O3.out (HE.out.keep B3)).mono ?_; rintro e w5 ⟨⟨v5, rfl, own5⟩, b5⟩)
          go_ret
          exact ⟨ret_bool (by simp), B3.trans (b5.mono B3.size)⟩
        · by_cases h1 : p < (F.length : Int)
          · have hm0 : m = 0 := Classical.byContradiction fun h => hin ⟨⟨by omega, h1⟩, h⟩
            subst hm0
            clear hin
            have hz : ((0 : UInt8).toNat : Int) = 0 := rfl
            go_wp2_with (go_at_call 10; refine (D.out _ O3.out (HE.out.keep B3)).mono ?_; rintro e w5 ⟨⟨v5, rfl, own5⟩, b5⟩)
            go_ret
            exact ⟨ret_bool (by simp), B3.trans (b5.mono B3.size)⟩
          · clear hin
            go_wp2_with (go_at_call 10; refine (D.out _ O3.out (HE.out.keep B3)).mono ?_; rintro e w5 ⟨⟨v5, rfl, own5⟩, b5⟩)
            go_ret
            exact ⟨ret_bool (by simp), B3.trans (b5.mono B3.size)⟩
    · have hR : encodeR fs = ([], validR fs) := by unfold encodeR; rw [if_neg hv]
      rw [hR] at E1
      generalize validR fs = fe at *
      have hne : (fe != 0) = true := by simpa using hv
      simp only at E1
      have E1 := Lib.hid E1
      clear hR hv hbig hat E hok
      go_enter Tryd.func4, Tryd.ntmps4
      go_upto_region 5 with (first
        | (go_at_call 7; refine C0.out.mono ?_; rintro e w1 ⟨rfl, b1⟩)
        | (go_at_call 8; refine (C1.out _ (HA.out.keep b1)).mono ?_; rintro e w2 ⟨rfl, b2⟩; have B2 := b1.trans (b2.mono b1.size)))
      clear C0 C1 b1 b2
      go_upto_region 6 with (go_at_call 9; refine (E1.out _ (HA.out.keep B2) (HE.out.pw.keep B2)).mono ?_; rintro e w3 ⟨v3, rfl, own3, b3⟩; have B3 := B2.trans (b3.mono B2.size); clear E1)
      obtain ⟨a3, c3, rfl, _, _, _⟩ := own3.at_
      go_wp2_with fail
      go_ret
      exact ⟨ret_bool (by simp), B3⟩
set_option maxRecDepth 100000 in
theorem opened (H : Type) (enc : TypeId × Value → H) (W : World) (base : Nat) (args : Array Value) (ds : List (DataW H)) (p : List MemPlace)
    (hval : ∀ (j : Nat) t v, Tryd.f4.params[j]? = some t → args[j]? = some v → Value.okWide Tryd.prog W .any base t v)
    (hA : DataW.TrodAll enc Tryd.prog W 0 (fun _ => true) true Tryd.f4.params.toList args.toList ds p)
    (hr : ∀ x ∈ DataW.weightsEach Tryd.prog Tryd.f4.params.toList ds, x ≤ reachBytes)
    (hL : laidMetH Tryd.prog Rows.tagTellsRow.laid W) (hS : W.ShapedOpen Tryd.prog) :
    Calls Tryd.prog 4 args W fun e W' => e = .returned (.bool true) ∧ Below W.heap.size W W' := by
  rw [Tryd.params4] at hA hval hr
  obtain ⟨v0, vs0, d0, ds0, p0, q0, hargs, rfl, rfl, h0, r0⟩ := trodAll_cons hA
  obtain ⟨v1, vs1, d1, ds1, p1, q1, rfl, rfl, rfl, h1, r1⟩ := trodAll_cons r0
  obtain ⟨v2, vs2, d2, ds2, p2, q2, rfl, rfl, rfl, h2, r2⟩ := trodAll_cons r1
  obtain ⟨rfl, rfl, rfl⟩ := trodAll_nil r2
  obtain rfl : args = #[v0, v1, v2] := by cases args; simp_all
  obtain ⟨a, fs, cap, rfl, hat, hc, hm, hok⟩ := open_fieldsArg (hval 0 22 v0 rfl rfl) h0 (fun x hx => hr x (weights_each (i := 0) rfl rfl x hx))
  obtain ⟨p, rfl, _, _, _⟩ := open_int Tryd.underlying3 (hval 1 3 v1 rfl rfl) h1
  obtain ⟨m, rfl⟩ := open_byte Tryd.underlying5 (hval 2 5 v2 rfl rfl) h2
  exact walk fs a cap p m W (by omega) (fun f h => (hok f h).2) hat (env_laid hL hS)
end Go.Proofs.YtokinnkagdjciaaDoor.tagTells
