/- TagBack: the walk, and the step from the law's arguments to it. Written by genback.py. -/
import Derived.Test.YtokinnkagdjciaaDoorTagDecode
import Derived.Test.YtokinnkagdjciaaDoorTagTellsMath
import Derived.Test.YtokinnkagdjciaaDoorTagOpen
import Derived.Test.YtokinnkagdjciaaDoorTagLaw
namespace Go.Proofs.YtokinnkagdjciaaDoor.tagBack
open Go.ChangeShapes Go.WideShapes Go.ChangeAt Go.RowKit Go.Proofs.YtokinnkagdjciaaDoor.Bas Go.Proofs.YtokinnkagdjciaaDoor.FixpW Go.Proofs.YtokinnkagdjciaaDoor.DecW Go.Proofs.YtokinnkagdjciaaDoor.FldW Go.Proofs.YtokinnkagdjciaaDoor.TagM Go.Proofs.YtokinnkagdjciaaDoor.TagW

theorem sum_body (fs : List Fld) : sumL fs ≤ 4 * (bodyB fs).length := by
  induction fs with
  | nil => simp [sumL, bodyB]
  | cons f fs ih =>
    have e1 : sumL (f :: fs) = (6 + f.2.length) + sumL fs := by simp [sumL]
    have e2 : (bodyB (f :: fs)).length = (fieldB f).length + (bodyB fs).length := by rw [bodyB_cons, List.length_append]
    have e3 : f.2.length + 2 ≤ (fieldB f).length := by unfold fieldB; simp
    omega
/-- what is answered of bytes that are read as a frame -/
theorem read_back {s : List UInt8} {xs : List Fld} {n : Nat} (h : decodeR s = ((xs, n), 0)) : encodeR xs = (s.take n, 0) ∧ sumL xs ≤ 16384 ∧ xs.length ≤ 16384 ∧ n ≤ s.length ∧ 1 ≤ n := by
  obtain ⟨h1, h2, h3, h4⟩ := decode_ok h
  have := sum_body xs
  have h5 := (valid_iff.1 h1).2
  have h6 := sumL_len xs
  have h7 := frameB_len (bodyB xs)
  refine ⟨by unfold encodeR; rw [if_pos h1, h4], by omega, by omega, h2, by omega⟩
/-- between two beginnings of a frame -/
def BackR (F : List UInt8) (g o : Nat) (w : World) (n e i : Value) (wr : World) : Prop :=
  ∃ (k : Nat) (x y : Int), k ≤ F.length ∧ k ≤ 300 ∧ n = .int .i64 x ∧ e = .int .i64 y ∧ i = .int .i64 k ∧ At wr (some ⟨g, o, none⟩) (u8s F) ∧ Below w.heap.size w wr
theorem own_app {W : World} {b : Nat} {v : Value} {F bs : List UInt8} (h : W.ownsRow b 5 1 v (F.length + bs.length) (u8s F ++ u8s bs)) : W.ownsRow b 5 1 v (F ++ bs).length (u8s (F ++ bs)) := by
  have e : u8s (F ++ bs) = u8s F ++ u8s bs := by simp [u8s]
  rw [e, List.length_append]
  exact h
set_option maxHeartbeats 4000000 in
set_option maxRecDepth 20000 in
theorem walk (fs : List Fld) (bs : List UInt8) (a ab : Option Addr) (cap cb : Nat) (w : World) (hl : fs.length ≤ 5864062014806) (hok : ∀ f ∈ fs, f.2.length ≤ 140737488351232) (hbl : bs.length ≤ cb) (hb63 : bs.length ≤ 140737488351232) (hat : At w a (fcells fs)) (hatb : At w ab (u8s bs)) (E : Env w) :
    Calls Tryd.prog 3 #[.slice a fs.length cap, .slice ab bs.length cb] w fun e w' => e = .returned (.bool true) ∧ Below w.heap.size w w' := by
  have C0 := Lib.hid (wakeT_calls w E.pw)
  have C1 := Lib.hid (fun W h => long_calls fs a cap W (by omega) hok h)
  have HE := Lib.hid E
  have HA := Lib.hid hat
  have HB := Lib.hid hatb
  by_cases hbig : 32768 < sumL fs
  · rw [decide_eq_true hbig] at C1
    clear hbig
    go_enter Tryd.func3, Tryd.ntmps3
    go_wp2_with (first
      | (go_at_call 7; refine C0.out.mono ?_; rintro e w1 ⟨rfl, b1⟩)
      | (go_at_call 8; refine (C1.out _ (HA.out.keep b1)).mono ?_; rintro e w2 ⟨rfl, b2⟩))
    go_ret
    exact ⟨rfl, b1.trans (b2.mono b1.size)⟩
  · rw [decide_eq_false hbig] at C1
    by_cases hb8 : 8192 < bs.length
    · have hbI : (8192 : Int) < (bs.length : Int) := by omega
      clear hbig hb8
      go_enter Tryd.func3, Tryd.ntmps3
      go_wp2_with (first
        | (go_at_call 7; refine C0.out.mono ?_; rintro e w1 ⟨rfl, b1⟩)
        | (go_at_call 8; refine (C1.out _ (HA.out.keep b1)).mono ?_; rintro e w2 ⟨rfl, b2⟩))
      go_ret
      exact ⟨rfl, b1.trans (b2.mono b1.size)⟩
    · have hbI : ¬ (8192 : Int) < (bs.length : Int) := by omega
      have E1 := fun W h hp => encode_calls fs a cap W (by omega) (by omega) h hp
      have DB := fun W h E => tdecode_calls bs ab cb W (by omega) hbl h E
      unfold DecV at DB
      have DOK : (decodeR bs).2 = 0 → (decodeR bs).1.2 ≤ bs.length ∧ 1 ≤ (decodeR bs).1.2 ∧ (decodeR bs).1.1.length ≤ 16384 ∧ ∀ a cap W, At W a (fcells (decodeR bs).1.1) → Pow W → Calls Tryd.prog 9 #[.slice a (decodeR bs).1.1.length cap] W fun e w' => ∃ v, e = .returned (.tuple #[v, .int .i64 0]) ∧ ownsM w' W.heap.size 5 v (bs.take (decodeR bs).1.2).length (u8s (bs.take (decodeR bs).1.2)) ∧ Below W.heap.size W w' := by
        intro h
        obtain ⟨k1, k2, k3, k4, k5⟩ := read_back (s := bs) (xs := (decodeR bs).1.1) (n := (decodeR bs).1.2) (by rw [← h])
        refine ⟨k4, k5, k3, fun a cap W h hp => ?_⟩
        have := encode_calls (decodeR bs).1.1 a cap W (by omega) (by omega) h hp
        rw [k1] at this
        exact this
      have DBAD : (decodeR bs).2 ≠ 0 → (decodeR bs).1.1 = [] ∧ (decodeR bs).1.2 ≤ bs.length ∧ (0 < (decodeR bs).1.2 ↔ (decodeR bs).2 ≠ 10) ∧ ((decodeR bs).2 = 10 → (decodeR bs).1.2 = 0) := fun h => decode_bad (e := (decodeR bs).2) rfl h
      generalize decodeR bs = dr at *
      obtain ⟨⟨xs, n⟩, er⟩ := dr
      simp only at DB DOK DBAD
      have DB := Lib.hid DB
      have DOK := Lib.hid DOK
      have DBAD := Lib.hid DBAD
      by_cases hv : validR fs = 0
      · have hR : encodeR fs = (frameB (bodyB fs), 0) := by unfold encodeR; rw [if_pos hv]
        rw [hR] at E1
        have hfl := frame_len (bodyB fs) (valid_iff.1 hv).2
        have h7 := frameB_len (bodyB fs)
        have D1 := fun (a : Option Addr) (cap : Nat) W (hc : (frameB (bodyB fs) ++ bs).length ≤ cap) h E => tdecode_calls (frameB (bodyB fs) ++ bs) a cap W (by rw [List.length_append]; omega) hc h E
        unfold DecV at D1
        rw [decode_frame hv bs] at D1
        have D2 := fun (k : Nat) (hk : k < (frameB (bodyB fs)).length) (a : Option Addr) (cap : Nat) W (hc : k ≤ cap) (h : At W a (u8s (frameB (bodyB fs)))) E => tdecode_calls ((frameB (bodyB fs)).take k) a cap W (by rw [List.length_take]; omega) (by rw [List.length_take]; omega) (by have := At.take h k; unfold u8s at this ⊢; rw [List.map_take]; exact this) E
        have D2 : ∀ (k : Nat) (hk : k < (frameB (bodyB fs)).length) (a : Option Addr) (cap : Nat) W (hc : k ≤ cap) (h : At W a (u8s (frameB (bodyB fs)))) (E : Env W), Calls Tryd.prog 10 #[.slice a k cap] W fun e w' => (∃ v, e = .returned (.tuple #[v, .int .i64 0, .int .i64 10])) ∧ Below W.heap.size W w' := by
          intro k hk a cap W hc h E
          have := D2 k hk a cap W hc h E
          unfold DecV at this
          rw [decode_beg hv hk, List.length_take, Nat.min_eq_left (by omega)] at this
          exact this.mono fun e w' ⟨⟨v, h1, _⟩, h2⟩ => ⟨⟨v, h1⟩, h2⟩
        generalize frameB (bodyB fs) = F at *
        simp only at E1 D1
        rw [List.length_append] at D1
        have hF0 : 0 < F.length := by omega
        clear h7
        have E1 := Lib.hid E1
        have D1 := Lib.hid D1
        have D2 := Lib.hid D2
        clear hR hv hbig hat hatb E hok hb8
        go_enter Tryd.func3, Tryd.ntmps3
        go_upto_region 5 with (first
          | (go_at_call 7; refine C0.out.mono ?_; rintro e w1 ⟨rfl, b1⟩)
          | (go_at_call 8; refine (C1.out _ (HA.out.keep b1)).mono ?_; rintro e w2 ⟨rfl, b2⟩; have B2 := b1.trans (b2.mono b1.size)))
        clear C0 C1 b1 b2
        go_upto_region 7 with (go_at_call 9; refine (E1.out _ (HA.out.keep B2) (HE.out.pw.keep B2)).mono ?_; rintro e w3 ⟨v3, rfl, own3, b3⟩; have B3 := B2.trans (b3.mono B2.size); have hz2 := B2.size; clear E1)
        obtain ⟨a3, c3, rfl, hc3, hm3, at3⟩ := own3.at_
        have AT3 := Lib.hid at3
        obtain ⟨g3, o3, rfl, _⟩ := at3 0 _ (u8s_get F 0 hF0)
        clear B2 b3 own3 at3
        go_upto_region 8 with (first
          | (at_builtin; refine wpList_append_at _ rfl (.tmp 31) (.tmp 32) elem8 rfl w3.heap.size (.slice (some ⟨w3.heap.size, 0, none⟩) 0 0) 0 [] rfl (World.ownsRow_made _ _ _ (Nat.le_refl _) (by unfold maxLen; omega) rfl) (some ⟨g3, o3, none⟩) F.length c3 (u8s F) rfl (by rw [u8s_len]; omega) (AT3.out.keep ((Below.refl _ _).alloc (Nat.le_refl _) _)) (one_u8 F) (by unfold maxLen; omega) (by omega) (by simp) ?_; intro v4 w4 own4 bel4 g4 ob4; simp only [Nat.zero_add, List.nil_append] at own4; have C4 := ((Below.refl w3.heap.size w3).alloc (Nat.le_refl _) (.cells #[] 5)).trans bel4; have B4 := B3.trans (C4.mono B3.size))
          | (at_builtin; refine wpList_append_at _ rfl (.tmp 33) (.tmp 34) elem8 rfl w3.heap.size v4 F.length (u8s F) rfl own4 ab bs.length cb (u8s bs) rfl (by rw [u8s_len]; omega) (HB.out.keep B4) (one_u8 bs) (by unfold maxLen; omega) (by omega) C4.size ?_; intro v5 w5 own5 bel5 g5 ob5; have C5 := C4.trans bel5; have B5 := B3.trans (C5.mono B3.size); have own5 := own_app own5; obtain ⟨a5, c5, rfl, _, hc5, at5, _, _⟩ := at_of_owns own5)
          | (go_at_call 10; refine (D1.out _ _ _ (by have := hc5; rw [List.length_append] at this; exact this) at5 (HE.out.keep B5)).mono ?_; rintro e w6 ⟨⟨v6, rfl, own6⟩, b6⟩; have C6 := C5.trans (b6.mono C5.size); have B6 := B3.trans (C6.mono B3.size)))
        obtain ⟨a6, c6, rfl, _, _, at6, _, _⟩ := at_of_owns own6
        have SM := Lib.hid (same_calls a6 a c6 cap fs fs w6 (by omega) (by omega) at6 (HA.out.keep B6))
        clear own6 at6 D1 own4 own5 at5 bel4 bel5 ob4 ob5 B4 B5 C4 C5 b6
        go_upto_region 10 with (go_at_call 11; refine SM.out.mono ?_; rintro e w7 ⟨rfl, n7, hw7⟩; have C7 : Below w3.heap.size w3 w7 := hw7 ▸ below_drewN C6 n7; have B7 := B3.trans (C7.mono B3.size); clear hw7)
        have AT7 := Lib.hid (AT3.out.keep C7)
        clear SM C6 B6 C7 AT3 B3
        go_wp2_with fail
        go_loopw [8, 9, 10] (BackR F g3 o3 w) (fun _ _ i _ => F.length - (intOf i).toNat)
        case atStart => exact ⟨0, _, _, Nat.zero_le _, by omega, rfl, rfl, rfl, AT7.out, B7⟩
        case round =>
          clear AT7 B7
          obtain ⟨k, x8, x9, hk, hk3, rfl, rfl, rfl, AT7, B⟩ := hrel
          by_cases hlt : k < F.length
          · by_cases hlt3 : k < 300
            · have HA7 := Lib.hid AT7
              have HBw := Lib.hid B
              clear AT7 B
              go_wp2_with (go_at_call 10; refine (D2.out k hlt _ _ _ (by omega) HA7.out (HE.out.keep HBw.out)).mono ?_; rintro e w8 ⟨⟨v8, rfl⟩, b8⟩)
              go_roundw
              case rel => exact ⟨k + 1, _, _, by omega, by omega, rfl, rfl, by go_num, HA7.out.keep b8, HBw.out.trans (b8.mono HBw.out.size)⟩
              case measure => simp [intOf]; omega
            · obtain rfl : k = 300 := by omega
              clear D2 AT7 hk hk3 hlt3
              go_upto_region 17 with (go_at_call 10; refine (DB.out _ (HB.out.keep B) (HE.out.keep B)).mono ?_; rintro e w6 ⟨⟨v6, rfl, own6⟩, b6⟩; have B6 := B.trans (b6.mono B.size); clear DB B b6)
              obtain ⟨a6, c6, rfl, _, _, at6, _, _⟩ := at_of_owns own6
              clear own6
              by_cases he : er = 0
              · obtain ⟨n1, n2, n3, n4⟩ := DOK.out he
                subst he
                have nI : (n : Int) ≤ (bs.length : Int) := by omega
                have hb0 : 0 < bs.length := by omega
                obtain ⟨gb, ob, rfl, _⟩ := HB.out 0 _ (u8s_get bs 0 hb0)
                have HAT6 := Lib.hid at6
                have E2 := Lib.hid (fun W h hp => n4 a6 c6 W h hp)
                have htn : (bs.take n).length = n := by rw [List.length_take]; omega
                have AB := HB.out.keep B6
                have AB2 : At w6 (some ⟨gb, ob, none⟩) (u8s (bs.take n)) := by have := At.take AB n; unfold u8s at this ⊢; rw [List.map_take]; exact this
                have HAB2 := Lib.hid AB2
                clear DOK DBAD n4 at6 AB AB2
                generalize bs.take n = bt at *
                go_upto_region 20 with (go_at_call 9; refine (E2.out _ HAT6.out (HE.out.pw.keep B6)).mono ?_; rintro e w7 ⟨v7, rfl, own7, b7⟩; have B7 := B6.trans (b7.mono B6.size); clear E2)
                obtain ⟨a7, c7, rfl, _, _, _⟩ := own7.at_
                have r7 := fun n => run_back_M (P := Tryd.prog) (src := 23) (dst := 9) Tryd.underlying23 Tryd.underlying5 Tryd.underlying9 own7 (below_drewN (Below.refl _ w7) n)
                have r8 := fun n c => run_back_at (P := Tryd.prog) (src := 23) (dst := 9) (cap := c) Tryd.underlying23 Tryd.underlying5 Tryd.underlying9 ((HAB2.out.keep b7).drewN n)
                simp only [htn] at r7 r8
                clear own7 b7 HAB2 HAT6 B6 HA HB HE n2 n3
                go_quiet (fail)
                all_goals
                  go_wp2_with fail
                  go_ret
                  exact ⟨ret_bool (by simp), below_drewN B7 nq⟩
              · obtain ⟨rfl, n2, n3, n4⟩ := DBAD.out he
                have nI : (n : Int) ≤ (bs.length : Int) := by omega
                have hne : (er != 0) = true := by simpa using he
                clear DOK DBAD
                by_cases h10 : er = 10
                · subst h10
                  have hn0 : n = 0 := n4 rfl
                  subst hn0
                  clear n3 n4 hne he
                  go_wp2_with fail
                  go_ret
                  exact ⟨ret_bool (by simp), B6⟩
                · have hnp : (0 : Int) < (n : Int) := by have := n3.2 h10; omega
                  have h10b : (er != 10) = true := by simpa using h10
                  clear n3 n4
                  go_wp2_with fail
                  go_ret
                  exact ⟨ret_bool (by simp), B6⟩
          · obtain rfl : k = F.length := by omega
            clear D2 AT7 hk hk3 hlt
            go_upto_region 17 with (go_at_call 10; refine (DB.out _ (HB.out.keep B) (HE.out.keep B)).mono ?_; rintro e w6 ⟨⟨v6, rfl, own6⟩, b6⟩; have B6 := B.trans (b6.mono B.size); clear DB B b6)
            obtain ⟨a6, c6, rfl, _, _, at6, _, _⟩ := at_of_owns own6
            clear own6
            by_cases he : er = 0
            · obtain ⟨n1, n2, n3, n4⟩ := DOK.out he
              subst he
              have nI : (n : Int) ≤ (bs.length : Int) := by omega
              have hb0 : 0 < bs.length := by omega
              obtain ⟨gb, ob, rfl, _⟩ := HB.out 0 _ (u8s_get bs 0 hb0)
              have HAT6 := Lib.hid at6
              have E2 := Lib.hid (fun W h hp => n4 a6 c6 W h hp)
              have htn : (bs.take n).length = n := by rw [List.length_take]; omega
              have AB := HB.out.keep B6
              have AB2 : At w6 (some ⟨gb, ob, none⟩) (u8s (bs.take n)) := by have := At.take AB n; unfold u8s at this ⊢; rw [List.map_take]; exact this
              have HAB2 := Lib.hid AB2
              clear DOK DBAD n4 at6 AB AB2
              generalize bs.take n = bt at *
              go_upto_region 20 with (go_at_call 9; refine (E2.out _ HAT6.out (HE.out.pw.keep B6)).mono ?_; rintro e w7 ⟨v7, rfl, own7, b7⟩; have B7 := B6.trans (b7.mono B6.size); clear E2)
              obtain ⟨a7, c7, rfl, _, _, _⟩ := own7.at_
              have r7 := fun n => run_back_M (P := Tryd.prog) (src := 23) (dst := 9) Tryd.underlying23 Tryd.underlying5 Tryd.underlying9 own7 (below_drewN (Below.refl _ w7) n)
              have r8 := fun n c => run_back_at (P := Tryd.prog) (src := 23) (dst := 9) (cap := c) Tryd.underlying23 Tryd.underlying5 Tryd.underlying9 ((HAB2.out.keep b7).drewN n)
              simp only [htn] at r7 r8
              clear own7 b7 HAB2 HAT6 B6 HA HB HE n2 n3
              go_quiet (fail)
              all_goals
                go_wp2_with fail
                go_ret
                exact ⟨ret_bool (by simp), below_drewN B7 nq⟩
            · obtain ⟨rfl, n2, n3, n4⟩ := DBAD.out he
              have nI : (n : Int) ≤ (bs.length : Int) := by omega
              have hne : (er != 0) = true := by simpa using he
              clear DOK DBAD
              by_cases h10 : er = 10
              · subst h10
                have hn0 : n = 0 := n4 rfl
                subst hn0
                clear n3 n4 hne he
                go_wp2_with fail
                go_ret
                exact ⟨ret_bool (by simp), B6⟩
              · have hnp : (0 : Int) < (n : Int) := by have := n3.2 h10; omega
                have h10b : (er != 10) = true := by simpa using h10
                clear n3 n4
                go_wp2_with fail
                go_ret
                exact ⟨ret_bool (by simp), B6⟩
      · have hR : encodeR fs = ([], validR fs) := by unfold encodeR; rw [if_neg hv]
        rw [hR] at E1
        generalize validR fs = fe at *
        have hne : (fe == 0) = false := by simpa using hv
        simp only at E1
        have E1 := Lib.hid E1
        clear hR hv hbig hat hatb E hok hb8
        go_enter Tryd.func3, Tryd.ntmps3
        go_upto_region 5 with (first
          | (go_at_call 7; refine C0.out.mono ?_; rintro e w1 ⟨rfl, b1⟩)
          | (go_at_call 8; refine (C1.out _ (HA.out.keep b1)).mono ?_; rintro e w2 ⟨rfl, b2⟩; have B2 := b1.trans (b2.mono b1.size)))
        clear C0 C1 b1 b2
        go_upto_region 16 with (go_at_call 9; refine (E1.out _ (HA.out.keep B2) (HE.out.pw.keep B2)).mono ?_; rintro e w3 ⟨v3, rfl, own3, b3⟩; have B := B2.trans (b3.mono B2.size); clear E1)
        clear own3 b3 B2 hne
        go_upto_region 17 with (go_at_call 10; refine (DB.out _ (HB.out.keep B) (HE.out.keep B)).mono ?_; rintro e w6 ⟨⟨v6, rfl, own6⟩, b6⟩; have B6 := B.trans (b6.mono B.size); clear DB B b6)
        obtain ⟨a6, c6, rfl, _, _, at6, _, _⟩ := at_of_owns own6
        clear own6
        by_cases he : er = 0
        · obtain ⟨n1, n2, n3, n4⟩ := DOK.out he
          subst he
          have nI : (n : Int) ≤ (bs.length : Int) := by omega
          have hb0 : 0 < bs.length := by omega
          obtain ⟨gb, ob, rfl, _⟩ := HB.out 0 _ (u8s_get bs 0 hb0)
          have HAT6 := Lib.hid at6
          have E2 := Lib.hid (fun W h hp => n4 a6 c6 W h hp)
          have htn : (bs.take n).length = n := by rw [List.length_take]; omega
          have AB := HB.out.keep B6
          have AB2 : At w6 (some ⟨gb, ob, none⟩) (u8s (bs.take n)) := by have := At.take AB n; unfold u8s at this ⊢; rw [List.map_take]; exact this
          have HAB2 := Lib.hid AB2
          clear DOK DBAD n4 at6 AB AB2
          generalize bs.take n = bt at *
          go_upto_region 20 with (go_at_call 9; refine (E2.out _ HAT6.out (HE.out.pw.keep B6)).mono ?_; rintro e w7 ⟨v7, rfl, own7, b7⟩; have B7 := B6.trans (b7.mono B6.size); clear E2)
          obtain ⟨a7, c7, rfl, _, _, _⟩ := own7.at_
          have r7 := fun n => run_back_M (P := Tryd.prog) (src := 23) (dst := 9) Tryd.underlying23 Tryd.underlying5 Tryd.underlying9 own7 (below_drewN (Below.refl _ w7) n)
          have r8 := fun n c => run_back_at (P := Tryd.prog) (src := 23) (dst := 9) (cap := c) Tryd.underlying23 Tryd.underlying5 Tryd.underlying9 ((HAB2.out.keep b7).drewN n)
          simp only [htn] at r7 r8
          clear own7 b7 HAB2 HAT6 B6 HA HB HE n2 n3
          go_quiet (fail)
          all_goals
            go_wp2_with fail
            go_ret
            exact ⟨ret_bool (by simp), below_drewN B7 nq⟩
        · obtain ⟨rfl, n2, n3, n4⟩ := DBAD.out he
          have nI : (n : Int) ≤ (bs.length : Int) := by omega
          have hne : (er != 0) = true := by simpa using he
          clear DOK DBAD
          by_cases h10 : er = 10
          · subst h10
            have hn0 : n = 0 := n4 rfl
            subst hn0
            clear n3 n4 hne he
            go_wp2_with fail
            go_ret
            exact ⟨ret_bool (by simp), B6⟩
          · have hnp : (0 : Int) < (n : Int) := by have := n3.2 h10; omega
            have h10b : (er != 10) = true := by simpa using h10
            clear n3 n4
            go_wp2_with fail
            go_ret
            exact ⟨ret_bool (by simp), B6⟩
theorem cells8 : Tryd.prog.cellsOf 5 = 1 := by kernel_rfl
theorem bytes8 : Tryd.prog.bytesOf 5 = 1 := by kernel_rfl
set_option maxRecDepth 100000 in
theorem opened (H : Type) (enc : TypeId × Value → H) (W : World) (base : Nat) (args : Array Value) (ds : List (DataW H)) (p : List MemPlace)
    (hval : ∀ (j : Nat) t v, Tryd.f3.params[j]? = some t → args[j]? = some v → Value.okWide Tryd.prog W .any base t v)
    (hA : DataW.TrodAll enc Tryd.prog W 0 (fun _ => true) true Tryd.f3.params.toList args.toList ds p)
    (hr : ∀ x ∈ DataW.weightsEach Tryd.prog Tryd.f3.params.toList ds, x ≤ reachBytes)
    (hL : laidMetH Tryd.prog Rows.tagBackRow.laid W) (hS : W.ShapedOpen Tryd.prog) :
    Calls Tryd.prog 3 args W fun e W' => e = .returned (.bool true) ∧ Below W.heap.size W W' := by
  rw [Tryd.params3] at hA hval hr
  obtain ⟨v0, vs0, d0, ds0, p0, q0, hargs, rfl, rfl, h0, r0⟩ := trodAll_cons hA
  obtain ⟨v1, vs1, d1, ds1, p1, q1, rfl, rfl, rfl, h1, r1⟩ := trodAll_cons r0
  obtain ⟨rfl, rfl, rfl⟩ := trodAll_nil r1
  obtain rfl : args = #[v0, v1] := by cases args; simp_all
  obtain ⟨a, fs, cap, rfl, hat, hc, hm, hok⟩ := open_fieldsArg (hval 0 22 v0 rfl rfl) h0 (fun x hx => hr x (weights_each (i := 0) rfl rfl x hx))
  obtain ⟨a1, l, cap1, rfl, hat1, hl, hm1, hd⟩ := open_u8 Tryd.underlying23 Tryd.underlying5 cells8 (hval 1 23 v1 rfl rfl) h1
  have hreach := reach_slice (n := l.length) (cap := cap1) Tryd.underlying23 hd (fun x hx => hr x (weights_each (i := 1) rfl rfl x hx))
  rw [bytes8] at hreach
  exact walk fs l a a1 cap cap1 W (by omega) (fun f h => (hok f h).2) hl (by omega) hat hat1 (env_laid hL hS)
end Go.Proofs.YtokinnkagdjciaaDoor.tagBack
