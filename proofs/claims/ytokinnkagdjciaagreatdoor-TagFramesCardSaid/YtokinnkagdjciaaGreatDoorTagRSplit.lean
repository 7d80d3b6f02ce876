/- The walk of the document's split. Written by genrsplit.py. -/
import Derived.Test.YtokinnkagdjciaaGreatDoorTagFields
import Derived.Test.YtokinnkagdjciaaGreatDoorTagWhole
import Derived.Test.YtokinnkagdjciaaGreatDoorTagSkips
namespace Go.Proofs.YtokinnkagdjciaaGreatDoor.TagW
open Go.RowKit Go.Proofs.YtokinnkagdjciaaGreatDoor.Bas Go.Proofs.YtokinnkagdjciaaGreatDoor.FixpM Go.Proofs.YtokinnkagdjciaaGreatDoor.FixpW Go.Proofs.YtokinnkagdjciaaGreatDoor.DecW Go.Proofs.YtokinnkagdjciaaGreatDoor.DecM Go.Proofs.YtokinnkagdjciaaGreatDoor.FldW Go.Proofs.YtokinnkagdjciaaGreatDoor.TagM

/-- between two bytes of a body -/
def RSplitR (l : List UInt8) (w : World) (out fr i : Value) (wr : World) : Prop :=
  ∃ (os : List Fld) (f k : Nat) (ao : Option Addr) (co : Nat), out = .slice ao os.length co ∧ fr = .int .i64 f ∧ i = .int .i64 k ∧ wr.ownsRow w.heap.size 43 2 (.slice ao os.length co) os.length (fcells os) ∧ Below w.heap.size w wr ∧ Hid (badF os = false) ∧ Hid (bodyB os = l.take f) ∧ Hid ((1 : UInt8) ∉ (l.drop f).take (k - f)) ∧ f ≤ k ∧ k ≤ l.length ∧ os.length ≤ f
theorem RSplitR.mk {l : List UInt8} {w : World} {out fr i : Value} {wr : World} (os : List Fld) (f k : Nat) (ao : Option Addr) (co : Nat) (h1 : out = .slice ao os.length co) (h2 : fr = .int .i64 f) (h3 : i = .int .i64 k) (h4 : wr.ownsRow w.heap.size 43 2 (.slice ao os.length co) os.length (fcells os)) (h5 : Below w.heap.size w wr) (h6 : badF os = false) (h7 : bodyB os = l.take f) (h8 : (1 : UInt8) ∉ (l.drop f).take (k - f)) (h9 : f ≤ k) (h10 : k ≤ l.length) (h11 : os.length ≤ f) : RSplitR l w out fr i wr := ⟨os, f, k, ao, co, h1, h2, h3, h4, h5, h6, h7, h8, h9, h10, h11⟩
/-- between two digits of a field's tag -/
def RNumR (c : List UInt8) (W : World) (at_ n : Value) (wr : World) : Prop :=
  ∃ j m : Nat, j ≤ c.length ∧ at_ = .int .i64 j ∧ n = .int .i64 m ∧ Hid ((c.take j).all isD = true) ∧ Hid (val (c.take j) = m) ∧ m ≤ 1000009 ∧ wr = W
theorem RNumR.mk {c : List UInt8} {W : World} {at_ n : Value} (j m : Nat) (h1 : j ≤ c.length) (h2 : at_ = .int .i64 j) (h3 : n = .int .i64 m) (h4 : (c.take j).all isD = true) (h5 : val (c.take j) = m) (h6 : m ≤ 1000009) : RNumR c W at_ n W := ⟨j, m, h1, h2, h3, h4, h5, h6, rfl⟩
theorem rnum_more {c : List UInt8} {j m : Nat} (hj : j < c.length) (hd : (c.take j).all isD = true) (hv : val (c.take j) = m) (h1 : isD c[j] = true) : (c.take (j + 1)).all isD = true ∧ val (c.take (j + 1)) = m * 10 + (c[j].toNat - 48) := by
  rw [List.take_succ_eq_append_getElem hj]
  refine ⟨by rw [List.all_append, hd]; simpa using h1, ?_⟩
  rw [val_append, hv]
  simp [val, valA]
theorem ext_mid (l : List UInt8) (i j : Nat) : (⟨l.toArray⟩ : ByteArray).extract i j = ⟨((l.drop i).take (j - i)).toArray⟩ := by
  apply ByteArray.ext
  rw [ByteArray.data_extract]
  apply Array.toList_inj.1
  simp
set_option maxHeartbeats 4000000 in
set_option maxRecDepth 20000 in
theorem rsplit_calls (l : List UInt8) (w : World) (hl : l.length ≤ 40000) :
    Calls Tryz.prog 23 #[.string ⟨l.toArray⟩] w fun e w' => FieldsV l w.heap.size e w' ∧ Below w.heap.size w w' := by
  have hsz : (⟨l.toArray⟩ : ByteArray).size = l.length := rfl
  go_enter Tryz.func23, Tryz.ntmps23
  go_wp2_with fail
  go_loopw [4, 5, 6] (RSplitR l w) (fun _ _ i _ => l.length - (intOf i).toNat)
  case atStart => exact RSplitR.mk [] 0 0 none 0 rfl rfl rfl (World.ownsRow_nil _ _ _ _) (Below.refl _ _) rfl rfl (by simp) (Nat.le_refl _) (Nat.zero_le _) (Nat.le_refl _)
  case round =>
    obtain ⟨os, f, k, ao, co, rfl, rfl, rfl, hO, hB, HBad, HBody, HNo, hfk, hkl, hlen⟩ := hrel
    have HO := Lib.hid hO
    have HB := Lib.hid hB
    clear hO hB
    by_cases hlt : k < l.length
    · have hlt2 : k < (⟨l.toArray⟩ : ByteArray).size := hlt
      have hb : ((((⟨l.toArray⟩ : ByteArray)[k]'hlt2).toNat : Int) == 1) = decide (l[k] = 1) := byte_1
      by_cases h1 : l[k] = 1
      · rw [decide_eq_true h1] at hb
        have HCut := Lib.hid (ext_mid l f k)
        have HOK := Lib.hid (fun a n hd hn ha hlt3 h61 h48 hr => rsplit_ok (a := a) (n := n) HBad.out HBody.out hfk hlt h1 hd hn ha hlt3 h61 h48 hr)
        have HNO := Lib.hid (fun a n hd hn hs hbad => rsplit_no (a := a) (n := n) HBad.out HBody.out hfk hlt h1 HNo.out hd hn hs hbad)
        have hcl : ((l.drop f).take (k - f)).length ≤ 40000 := by simp; omega
        generalize (l.drop f).take (k - f) = cur at *
        have hcz : (⟨cur.toArray⟩ : ByteArray).size = cur.length := rfl
        have hcut := HCut.out
        clear h1 HBad HBody HNo HCut
        go_upto_region 10 with fail
        clear hcut hb
        go_wp2_with fail
        obtain ⟨wc, rfl⟩ : ∃ x, x = wr := ⟨wr, rfl⟩
        go_loopw [8, 9] (RNumR cur wc) (fun a _ _ => cur.length - (intOf a).toNat)
        case atStart => exact RNumR.mk 0 0 (Nat.zero_le _) rfl rfl rfl rfl (Nat.zero_le _)
        case round =>
          obtain ⟨j, m, hj, rfl, rfl, HD, HV, hm, hw⟩ := hrel
          rw [hw]
          clear hw
          by_cases hjl : j < cur.length
          · have hj2 : j < (⟨cur.toArray⟩ : ByteArray).size := hjl
            have HN := Lib.hid (fun h => rnum_more hjl HD.out HV.out h)
            have hisD := isD_iff (b := cur[j])
            obtain ⟨X, hX⟩ : ∃ X, X = cur[j].toNat := ⟨_, rfl⟩
            have hbj : ((⟨cur.toArray⟩ : ByteArray)[j]'hj2).toNat = X := by rw [hX]; rfl
            have HC := Lib.hid hX
            have hXl : X < 256 := by rw [hX]; exact UInt8.toNat_lt _
            rw [← hX] at HN hisD
            clear hX
            by_cases h48 : X < 48
            · have h48I : ¬ (48 : Int) ≤ (X : Int) := by omega
              have HS : Hid (100000 ≤ m ∨ ∀ h : j < cur.length, isD cur[j] = false) := .inr (fun h => Bool.eq_false_iff.2 (fun hh => by have := hisD.1 hh; omega))
              clear HN hisD
              by_cases h0 : j = 0
              · have HR := Lib.hid (HNO.out j m HD.out HV.out HS.out (.inl h0))
                subst h0
                clear HNO HOK HD HV HS HC
                go_wp2_with fail
                exact bodyPost_ret (v := .tuple #[.slice none 0 0, .bool false]) (by simp [results, Tryz.f23, go_sem]) rfl ⟨FieldsV_no HR.out, HB.out⟩
              · have hb0 : ((j : Int) == 0) = false := by simp; omega
                have h61 : X ≠ 61 := by omega
                have HR := Lib.hid (HNO.out j m HD.out HV.out HS.out (.inr (.inr (.inl (fun h e => h61 (by rw [HC.out, e]; rfl))))))
                have hcb : ((X : Int) == 61) = false := by simp; omega
                clear HNO HOK HD HV HS HC h61
                go_upto_region 14 with fail
                try clear hmd
                go_wp2_with fail
                exact bodyPost_ret (v := .tuple #[.slice none 0 0, .bool false]) (by simp [results, Tryz.f23, go_sem]) rfl ⟨FieldsV_no HR.out, HB.out⟩
            · have h48I : (48 : Int) ≤ (X : Int) := by omega
              by_cases h57 : 57 < X
              · have h57I : ¬ (X : Int) ≤ 57 := by omega
                have HS : Hid (100000 ≤ m ∨ ∀ h : j < cur.length, isD cur[j] = false) := .inr (fun h => Bool.eq_false_iff.2 (fun hh => by have := hisD.1 hh; omega))
                clear HN hisD h48 h57
                by_cases h0 : j = 0
                · have HR := Lib.hid (HNO.out j m HD.out HV.out HS.out (.inl h0))
                  subst h0
                  clear HNO HOK HD HV HS HC
                  go_wp2_with fail
                  exact bodyPost_ret (v := .tuple #[.slice none 0 0, .bool false]) (by simp [results, Tryz.f23, go_sem]) rfl ⟨FieldsV_no HR.out, HB.out⟩
                · have hb0 : ((j : Int) == 0) = false := by simp; omega
                  have hjI : ¬ ((j : Int) = 0) := by omega
                  by_cases h61 : X = 61
                  · have HV61 := Lib.hid (show cur[j] = 61 from UInt8.toNat_inj.1 (by have := HC.out; rw [h61] at this; exact this.symm))
                    have hpos : 0 < cur.length := by omega
                    have hp2 : 0 < (⟨cur.toArray⟩ : ByteArray).size := hpos
                    obtain ⟨Y, hY⟩ : ∃ Y, Y = cur[0].toNat := ⟨_, rfl⟩
                    have hbd : ((⟨cur.toArray⟩ : ByteArray)[0]'hp2).toNat = Y := by rw [hY]; rfl
                    have HHd := Lib.hid (show cur.head? = some cur[0] by rw [List.head?_eq_getElem?, List.getElem?_eq_getElem hpos])
                    have HY := Lib.hid hY
                    clear hY
                    subst h61
                    by_cases hd48 : Y = 48
                    · have HR := Lib.hid (HNO.out j m HD.out HV.out HS.out (.inr (.inr (.inr (.inl (by rw [HHd.out, UInt8.toNat_inj.1 (show cur[0].toNat = (48 : UInt8).toNat by rw [← HY.out, hd48]; rfl)]))))))
                      subst hd48
                      clear HNO HOK HD HV HS HC HHd HY HV61
                      go_wp2_with fail
                      exact bodyPost_ret (v := .tuple #[.slice none 0 0, .bool false]) (by simp [results, Tryz.f23, go_sem]) rfl ⟨FieldsV_no HR.out, HB.out⟩
                    · have hdb : ((Y : Int) == 48) = false := by simp; omega
                      have HD48 := Lib.hid (show cur.head? ≠ some 48 by rw [HHd.out]; intro h; injection h with h; apply hd48; rw [HY.out, h]; rfl)
                      obtain ⟨V, hVd⟩ : ∃ V, V = cur.drop (j + 1) := ⟨_, rfl⟩
                      have hcutV := extract_drop cur (j + 1)
                      have HNR := Lib.hid (fun hr => HNO.out j m HD.out HV.out HS.out (.inr (.inr (.inr (.inr hr)))))
                      have HOKR := Lib.hid (fun hr => HOK.out j m HD.out HV.out h0 hjl HV61.out HD48.out hr)
                      rw [← hVd] at hcutV HNR HOKR
                      have hVl : V.length ≤ 40000 := by rw [hVd, List.length_drop]; omega
                      clear hVd HNO HOK HD HV HS HC HHd HV61 HD48 hd48 HY
                      go_upto_region 17 with fail
                      have K5 := Lib.hid (fun W => rright_calls ((m : Int), V) W (Nat.le_trans hVl (by decide)))
                      have B4 := HB.out.alloc HB.out.size (.cells #[.int .i64 (m : Int), .string ⟨V.toArray⟩] 43)
                      have XF := Box.new wc 43 #[.int .i64 (m : Int), .string ⟨V.toArray⟩]
                      have O4 := owns_below HO.out ((Below.refl wc.heap.size wc).alloc (Nat.le_refl _) (.cells #[.int .i64 (m : Int), .string ⟨V.toArray⟩] 43))
                      clear hcutV
                      generalize hW : wc.alloc (.cells #[.int .i64 (m : Int), .string ⟨V.toArray⟩] 43) = W4 at *
                      have f0 := XF.cell 0
                      have f1 := XF.cell 1
                      cases hrt : rightF ((m : Int), V) with
                      | false =>
                        have HR := Lib.hid (HNR.out hrt)
                        rw [hrt] at K5
                        clear HNR HOKR hrt
                        go_wp2_with (go_at_call 43; refine (K5.out _).mono ?_; rintro e w7 ⟨rfl, b7⟩)
                        exact bodyPost_ret (v := .tuple #[.slice none 0 0, .bool false]) (by simp [results, Tryz.f23, go_sem]) rfl ⟨FieldsV_no HR.out, B4.trans (b7.mono B4.size)⟩
                      | true =>
                        obtain ⟨ok1, ok2⟩ := HOKR.out hrt
                        have OK1 := Lib.hid ok1
                        have OK2 := Lib.hid ok2
                        rw [hrt] at K5
                        clear HNR HOKR hrt ok1 ok2
                        go_wp2_with (first
                          | (go_at_call 43; refine (K5.out _).mono ?_; rintro e w7 ⟨rfl, b7⟩; have B7 := B4.trans (b7.mono B4.size); have g0 := (XF.keep b7).cell 0; have g1 := (XF.keep b7).cell 1; have O7 := owns_below O4 b7)
                          | (at_builtin; refine wpList_append_at _ rfl (.tmp 85) (.tmp 87) elemF rfl w.heap.size (.slice ao os.length co) os.length (fcells os) rfl (owns_below O7 ((Below.refl w7.heap.size w7).alloc (Nat.le_refl _) _)) (some ⟨w7.heap.size, 0, none⟩) 1 1 (fcell ((m : Int), V)) rfl rfl (at_alloc w7 (fcell ((m : Int), V)).toArray _ _) (by simp [fcell, Value.oneCell']) (by unfold maxLen; omega) (by omega) (by have := B7.size; simp; omega) ?_; intro v9 w9 own9 bel9 g9 ob9))
                        obtain ⟨a9, c9, rfl, _, _, _, _, _⟩ := at_of_owns own9
                        have B9 := (B7.alloc B7.size _).trans bel9
                        go_roundw
                        case rel => exact RSplitR.mk (os ++ [((m : Int), V)]) (k + 1) (k + 1) a9 c9 (by simp) (by go_num) (by go_num) (by rw [fcells_append, fcells_one]; simpa using own9) B9 OK1.out OK2.out (by simp) (Nat.le_refl _) (by omega) (by simp; omega)
                        case measure => simp [intOf]; omega
                  · have HR := Lib.hid (HNO.out j m HD.out HV.out HS.out (.inr (.inr (.inl (fun h e => h61 (by rw [HC.out, e]; rfl))))))
                    have hcb : ((X : Int) == 61) = false := by simp; omega
                    clear HNO HOK HD HV HS HC
                    go_wp2_with fail
                    exact bodyPost_ret (v := .tuple #[.slice none 0 0, .bool false]) (by simp [results, Tryz.f23, go_sem]) rfl ⟨FieldsV_no HR.out, HB.out⟩
              · have h57I : (X : Int) ≤ 57 := by omega
                by_cases hmm : m < 100000
                · have hmI : (m : Int) < 100000 := by omega
                  obtain ⟨D, hD⟩ : ∃ D : Nat, D = X - 48 := ⟨_, rfl⟩
                  have hDle : D ≤ 9 := by omega
                  have hw3 : IntKind.u8.wrap ((X : Int) - 48) = (D : Int) := by rw [IntKind.wrap_u8]; omega
                  have hw4 : IntKind.i64.wrap (m * 10 : Int) = (m * 10 : Int) := IntWalk.i64_in _ (by omega)
                  have hw5 : IntKind.i64.wrap (D : Int) = (D : Int) := IntWalk.i64_in _ (by omega)
                  have hw6 : IntKind.i64.wrap ((m : Int) * 10 + (D : Int)) = (m : Int) * 10 + (D : Int) := IntWalk.i64_in _ (by omega)
                  have HN2 := Lib.hid (HN.out (hisD.2 (by omega)))
                  rw [← hD] at HN2
                  have HM2 := Lib.hid (show m * 10 + D ≤ 1000009 by omega)
                  clear HN HD HV hisD h48 h57 hD hmm
                  go_wp2_with fail
                  go_roundw
                  case rel => exact RNumR.mk (j + 1) (m * 10 + D) (by omega) (by go_num) (by go_num) HN2.out.1 HN2.out.2 HM2.out
                  case measure => simp [intOf]; omega
                · have hmd : decide ((m : Int) < 100000) = false := decide_eq_false (by omega)
                  have HS : Hid (100000 ≤ m ∨ ∀ h : j < cur.length, isD cur[j] = false) := .inl (by omega)
                  clear HN hisD h48 hmm
                  by_cases h0 : j = 0
                  · have HR := Lib.hid (HNO.out j m HD.out HV.out HS.out (.inl h0))
                    subst h0
                    clear HNO HOK HD HV HS HC
                    go_wp2_with fail
                    exact bodyPost_ret (v := .tuple #[.slice none 0 0, .bool false]) (by simp [results, Tryz.f23, go_sem]) rfl ⟨FieldsV_no HR.out, HB.out⟩
                  · have hb0 : ((j : Int) == 0) = false := by simp; omega
                    have h61 : X ≠ 61 := by omega
                    have HR := Lib.hid (HNO.out j m HD.out HV.out HS.out (.inr (.inr (.inl (fun h e => h61 (by rw [HC.out, e]; rfl))))))
                    have hcb : ((X : Int) == 61) = false := by simp; omega
                    clear HNO HOK HD HV HS HC h61
                    go_upto_region 14 with fail
                    try clear hmd
                    go_wp2_with fail
                    exact bodyPost_ret (v := .tuple #[.slice none 0 0, .bool false]) (by simp [results, Tryz.f23, go_sem]) rfl ⟨FieldsV_no HR.out, HB.out⟩
          · have HR := Lib.hid (HNO.out j m HD.out HV.out (.inr (fun h => absurd h hjl)) (.inr (.inl (by omega))))
            have hjj : j = cur.length := by omega
            subst hjj
            clear HNO HOK HD HV hjl
            by_cases h0 : cur.length = 0
            · go_wp2_with fail
              exact bodyPost_ret (v := .tuple #[.slice none 0 0, .bool false]) (by simp [results, Tryz.f23, go_sem]) rfl ⟨FieldsV_no HR.out, HB.out⟩
            · go_wp2_with fail
              exact bodyPost_ret (v := .tuple #[.slice none 0 0, .bool false]) (by simp [results, Tryz.f23, go_sem]) rfl ⟨FieldsV_no HR.out, HB.out⟩
      · rw [decide_eq_false h1] at hb
        have HNo2 := Lib.hid (rsplit_more hfk hlt h1 HNo.out)
        clear h1 HNo
        go_wp2_with fail
        go_roundw
        case rel => exact RSplitR.mk os f (k + 1) ao co rfl rfl (by go_num) HO.out HB.out HBad.out HBody.out HNo2.out (by omega) (by omega) hlen
        case measure => simp [intOf]; omega
    · have hkk : k = l.length := by omega
      subst hkk
      by_cases hff : f = l.length
      · subst hff
        have HS := Lib.hid (split_is (l := l) HBad.out (by have := HBody.out; rwa [List.take_length] at this))
        clear HBad HBody HNo hlt
        cases os with
        | nil =>
          clear hlen
          go_wp2_with fail
          go_quiet (fail)
          all_goals
            go_wp2_with fail
            exact bodyPost_ret (v := .tuple #[.slice ao 0 co, .bool false]) (by simp [results, Tryz.f23, go_sem]) rfl ⟨FieldsV_of HS.out (owns_below HO.out (below_drewN (Below.refl _ _) nq)), below_drewN HB.out nq⟩
        | cons f os =>
          obtain ⟨_, _, hv, _, _, hAt, _, _⟩ := at_of_owns HO.out
          cases hv
          obtain ⟨b, off, rfl, c0, c1⟩ := fld_at hAt 0 (by simp)
          have c0 : wr.cell? ⟨b, off, none⟩ = some (.int .i64 f.1) := by simpa using c0
          clear c1 hAt hlen
          have HS := Lib.hid (show splitR l = if (f.1 == 35) = true then some (f :: os) else none by rw [show (f.1 == 35) = decide (f.1 = 35) from rfl]; exact HS.out)
          go_wp2_with fail
          go_quiet (fail)
          all_goals
            go_wp2_with fail
            exact bodyPost_ret (v := .tuple #[.slice (some ⟨b, off, none⟩) (f :: os).length co, .bool (f.1 == 35)]) (by simp [results, Tryz.f23, go_sem]) rfl ⟨FieldsV_of HS.out (owns_below HO.out (below_drewN (Below.refl _ _) nq)), below_drewN HB.out nq⟩
      · have HR := Lib.hid (rsplit_tail HBad.out HBody.out (by omega) HNo.out)
        have hfI : ((f : Int) == (l.length : Int)) = false := by simp; omega
        have hfI2 : ¬ (f : Int) = (l.length : Int) := by omega
        clear HBad HBody HNo hlt
        go_wp2_with fail
        go_quiet (fail)
        all_goals
          go_wp2_with fail
          exact bodyPost_ret (v := .tuple #[.slice ao os.length co, .bool false]) (by simp [results, Tryz.f23, go_sem]) rfl ⟨FieldsV_no HR.out, below_drewN HB.out nq⟩
end Go.Proofs.YtokinnkagdjciaaGreatDoor.TagW
