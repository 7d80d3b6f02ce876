/- The walk of the document's Decode. -/
import Derived.Test.YtokinnkagdjciaaGreatDoorTagRSplit
import Derived.Test.YtokinnkagdjciaaGreatDoorTagDecode
import Derived.Test.YtokinnkagdjciaaGreatDoorTagRMath
namespace Go.Proofs.YtokinnkagdjciaaGreatDoor.TagW
open Go.RowKit Go.Proofs.YtokinnkagdjciaaGreatDoor.Bas Go.Proofs.YtokinnkagdjciaaGreatDoor.FixpM Go.Proofs.YtokinnkagdjciaaGreatDoor.FixpW Go.Proofs.YtokinnkagdjciaaGreatDoor.DecW Go.Proofs.YtokinnkagdjciaaGreatDoor.DecM Go.Proofs.YtokinnkagdjciaaGreatDoor.FldW Go.Proofs.YtokinnkagdjciaaGreatDoor.TagM

/-- between two digits of the number -/
def RDecR (s : List UInt8) (c : (Nat × Nat) × Int) (W : World) (n at_ : Value) (wr : World) : Prop :=
  ∃ k m : Nat, 12 ≤ k ∧ k ≤ s.length ∧ n = .int .i64 m ∧ at_ = .int .i64 k ∧ m ≤ 4096 ∧ wr = W ∧ Hid (scanA k m (s.drop k) = c)
theorem RDecR.mk {s : List UInt8} {c : (Nat × Nat) × Int} {W : World} {n at_ : Value} (k m : Nat) (h0 : 12 ≤ k) (h1 : k ≤ s.length) (h2 : n = .int .i64 m) (h3 : at_ = .int .i64 k) (h4 : m ≤ 4096) (h5 : scanA k m (s.drop k) = c) : RDecR s c W n at_ W := ⟨k, m, h0, h1, h2, h3, h4, rfl, h5⟩
/-- between two digits of the sum -/
def RSumR (T : List UInt8) (W : World) (i : Value) (wr : World) : Prop :=
  ∃ k : Nat, 3 ≤ k ∧ k ≤ 6 ∧ i = .int .i64 k ∧ Hid (∀ j, 3 ≤ j → j < k → ∀ h : j < T.length, isD T[j] = true) ∧ wr = W
theorem RSumR.mk {T : List UInt8} {W : World} {i : Value} (k : Nat) (h1 : 3 ≤ k) (h2 : k ≤ 6) (h3 : i = .int .i64 k) (h4 : ∀ j, 3 ≤ j → j < k → ∀ h : j < T.length, isD T[j] = true) : RSumR T W i W := ⟨k, h1, h2, h3, h4, rfl⟩
theorem rsum_more {T : List UInt8} {k : Nat} (h : ∀ j, 3 ≤ j → j < k → ∀ h : j < T.length, isD T[j] = true) (hk : k < T.length) (hd : isD T[k] = true) : ∀ j, 3 ≤ j → j < k + 1 → ∀ h : j < T.length, isD T[j] = true := by
  intro j h1 h2 h3
  rcases (by omega : j < k ∨ j = k) with h4 | rfl
  · exact h j h1 h4 h3
  · exact hd
set_option maxHeartbeats 4000000 in
set_option maxRecDepth 20000 in
theorem rdecode_calls (s : List UInt8) (a : Option Addr) (cap : Nat) (w : World) (hl : s.length ≤ 40000) (hat : At w a (u8s s)) (E : Env w) :
    Calls Tryz.prog 7 #[.slice a s.length cap] w fun e w' => DecV s w.heap.size e w' ∧ Below w.heap.size w w' := by
  have hcv := run_back_at (P := Tryz.prog) (src := 22) (dst := 9) (cap := cap) Tryz.underlying22 Tryz.underlying5 Tryz.underlying9 hat
  have P1 : ∀ W, Calls Tryz.prog 20 #[.string ⟨#[56, 61, 70, 73, 88, 46, 52, 46, 52, 1, 57, 61]⟩, .string ⟨s.toArray⟩] W fun e w' => e = .returned (.bool (decide (s <+: leadL))) ∧ W = w' := fun W => begins_calls leadL s W
  have P2 : ∀ W, Calls Tryz.prog 20 #[.string ⟨s.toArray⟩, .string ⟨#[56, 61, 70, 73, 88, 46, 52, 46, 52, 1, 57, 61]⟩] W fun e w' => e = .returned (.bool (decide (leadL <+: s))) ∧ W = w' := fun W => begins_calls s leadL W
  have hz : (⟨s.toArray⟩ : ByteArray).size = s.length := rfl
  have hl12 : leadL.length = 12 := rfl
  by_cases hA : s.length < 12 ∧ s <+: leadL
  · have HR := Lib.hid (decode_short (s := s) (by rw [sizeR_short hA.1 hA.2]))
    rw [decide_eq_true hA.2] at P1
    have hlI : (s.length : Int) < 12 := by omega
    have P1 := Lib.hid P1
    clear hA hat E P2
    go_enter Tryz.func7, Tryz.ntmps7
    go_wp2_with (go_at_call 20; refine (P1.out _).mono ?_; rintro e w2 ⟨rfl, rfl⟩)
    exact bodyPost_ret (v := .tuple #[.slice none 0 0, .int .i64 0, .int .i64 10]) (by simp [results, Tryz.f7, go_sem]) rfl ⟨DecV_bad HR.out rfl, Below.refl _ _⟩
  have h1s : 1 ≤ s.length := by
    rcases Nat.eq_zero_or_pos s.length with h0 | h0
    · exact absurd ⟨by omega, by rw [List.length_eq_zero_iff.1 h0]; exact List.nil_prefix⟩ hA
    · exact h0
  have KS := Lib.hid (fun W => rskip_calls s W (by omega) h1s)
  by_cases hB : leadL <+: s
  · have hle : 12 ≤ s.length := by have := hB.length_le; omega
    have HSc := Lib.hid (sizeR_scan (by omega) hB).symm
    rw [decide_eq_true hB] at P2
    have hlI : ¬ (s.length : Int) < 12 := by omega
    have P2 := Lib.hid P2
    have HE := Lib.hid E
    obtain ⟨c, hc⟩ : ∃ c, c = sizeR s := ⟨_, rfl⟩
    rw [← hc] at HSc
    have HC := Lib.hid hc
    clear hA hB hat E P1 hc
    go_enter Tryz.func7, Tryz.ntmps7
    go_wp2_with (go_at_call 20; refine (P2.out _).mono ?_; rintro e w2 ⟨rfl, rfl⟩)
    clear P2 hcv
    go_loopw [7, 8] (RDecR s c w) (fun _ k _ => s.length - (intOf k).toNat)
    case atStart => exact RDecR.mk 12 0 (Nat.le_refl _) hle rfl rfl (Nat.zero_le _) HSc.out
    case round =>
      clear HSc
      obtain ⟨k, m, hk12, hk, rfl, rfl, hm, hw, HS⟩ := hrel
      rw [hw]
      clear hw
      by_cases hlt : k < s.length
      · have hlt2 : k < (⟨s.toArray⟩ : ByteArray).size := hlt
        obtain ⟨x, hx⟩ : ∃ x, x = s[k] := ⟨_, rfl⟩
        have hxk : ((⟨s.toArray⟩ : ByteArray)[k]'hlt2).toNat = x.toNat := by rw [hx]; rfl
        have hS1 := Lib.hid (fun h1 h2 => scanA_step hlt HS.out h1 h2)
        have hS2 := Lib.hid (fun h1 h2 => scanA_hit hlt HS.out h1 h2)
        have hS3 := Lib.hid (fun h1 h2 => scanA_bad hlt HS.out h1 h2)
        rw [← hx] at hS1 hS2 hS3
        clear HS hx
        have hone : x = 1 ↔ x.toNat = 1 := ⟨fun h => by rw [h]; rfl, fun h => UInt8.toNat_inj.1 h⟩
        have hxl := x.toNat_lt
        rw [badD_iff, hone] at hS3
        rw [hone] at hS1 hS2
        have hS1' := Lib.hid (fun h1 h2 => hS1.out h1 (by cases hb : badD x m with | false => rfl | true => exact absurd (badD_iff.1 hb) h2))
        clear hS1 hone
        generalize x.toNat = X at *
        by_cases h1 : X = 1
        · subst h1
          clear hS1'
          by_cases hm1 : 1 ≤ m
          · have HX := Lib.hid ((HC.out).symm.trans (hS2.out rfl hm1))
            clear hS2 hS3 HC
            obtain ⟨p, hp⟩ : ∃ p, p = k + 1 := ⟨_, rfl⟩
            obtain ⟨q, hq⟩ : ∃ q, q = p + m := ⟨_, rfl⟩
            rw [← hp] at HX
            have hpI : (k : Int) + 1 = (p : Int) := by omega
            have hqI : (p : Int) + (m : Int) = (q : Int) := by omega
            have hm0 : ((m : Int) == 0) = false := by simp; omega
            by_cases hsh : s.length < q + 7
            · have HR := Lib.hid (dec_a HX.out hq hsh)
              have hsI : (s.length : Int) < (q : Int) + 7 := by omega
              clear hsh HX HE KS hp hq
              go_wp2_with fail
              exact bodyPost_ret (v := .tuple #[.slice none 0 0, .int .i64 0, .int .i64 10]) (by simp [results, Tryz.f7, go_sem]) rfl ⟨DecV_bad HR.out rfl, Below.refl _ _⟩
            · have hsI : ¬ (s.length : Int) < (q : Int) + 7 := by omega
              obtain ⟨T, hT⟩ : ∃ T, T = (s.drop q).take 7 := ⟨_, rfl⟩
              have hTl : T.length = 7 := by rw [hT]; simp; omega
              have HB' := Lib.hid (fun h => dec_b HX.out hq hsh (by rw [← hT]; exact h))
              have HC' := Lib.hid (fun h hn => dec_c HX.out hq hsh (by rw [← hT]; exact h) (by rw [← hT]; exact hn))
              have HD' := Lib.hid (fun h hn hf => dec_d HX.out hq hsh (by rw [← hT]; exact h) (by rw [← hT]; exact hn) hf)
              have HE' := Lib.hid (fun h hn fs hf => dec_e HX.out hq hsh (by rw [← hT]; exact h) (by rw [← hT]; exact hn) (fs := fs) hf)
              have HF := Lib.hid (fun h => frame_is HX.out hq hsh (by rw [← hT]; exact h))
              rw [← hT] at HF
              have hcE := ext_mid s q (q + 7)
              rw [show q + 7 - q = 7 by omega, ← hT] at hcE
              have hcB := ext_mid s p q
              rw [show q - p = m by omega] at hcB
              have hcW := ext_take s (q + 7)
              have hBl : ((s.drop p).take m).length = m := by rw [List.length_take, List.length_drop]; omega
              have KW := Lib.hid (fun W h => whole_calls ((s.drop p).take m) W (by omega) h)
              have KP := Lib.hid (fun W => rsplit_calls ((s.drop p).take m) W (by omega))
              generalize (s.drop p).take m = BD at *
              generalize frameB BD = FB at *
              generalize s.take (q + 7) = SQ at *
              have hc3 := ext_take T 3
              have hz7 : (⟨T.toArray⟩ : ByteArray).size = 7 := hTl
              have hqs : q ≤ s.length := by omega
              have hpq : p ≤ q := by omega
              have hpqI : (p : Int) ≤ (q : Int) := by omega
              have hq7 : q + 7 ≤ s.length := by omega
              have hq7I : (q : Int) + 7 ≤ (s.length : Int) := by omega
              clear hT HX hp hq hsh
              by_cases h3 : T.take 3 = [49, 48, 61]
              · obtain ⟨y, hy⟩ : ∃ y, y = T[6] := ⟨_, rfl⟩
                have hy6 : ((⟨T.toArray⟩ : ByteArray)[6]'(by omega)).toNat = y.toNat := by rw [hy]; rfl
                have HY := Lib.hid (show T.drop 6 = [y] by rw [hy]; exact drop6 hTl)
                clear hy
                by_cases hy1 : y = 1
                · subst hy1
                  have hy6' : (((((⟨T.toArray⟩ : ByteArray)[6]'(by omega)).toNat : Nat) : Int) == 1) = true := by rw [hy6]; rfl
                  have H3 := Lib.hid h3
                  have HOK := Lib.hid (fun (hd : ∀ j, 3 ≤ j → j < 6 → ∀ h : j < T.length, isD T[j] = true) => last_of h3 hd HY.out)
                  have HBad := Lib.hid (fun (j : Nat) h1 h2 h3 hd => HB'.out (last_no2 (i := j) h1 h2 h3 hd))
                  have hy6n : (((((⟨T.toArray⟩ : ByteArray)[6]'(by omega)).toNat : Nat) : Int) != 1) = false := by rw [hy6]; rfl
                  clear HB'
                  go_upto_region 25 with fail
                  clear hy6n hy6' hc3
                  go_wp2_with fail
                  go_loopw [11] (RSumR T w) (fun i _ => 6 - (intOf i).toNat)
                  case atStart => exact RSumR.mk 3 (Nat.le_refl _) (by omega) rfl (fun j h1 h2 => absurd h2 (by omega))
                  case round =>
                    obtain ⟨j, hj3, hj6, rfl, HDg, hw⟩ := hrel
                    rw [hw]
                    clear hw
                    by_cases hj : j < 6
                    · obtain ⟨z, hz⟩ : ∃ z, z = T[j]'(by omega) := ⟨_, rfl⟩
                      have hjs : j < (⟨T.toArray⟩ : ByteArray).size := by omega
                      have hzj : ((⟨T.toArray⟩ : ByteArray)[j]'hjs).toNat = z.toNat := by rw [hz]; rfl
                      have HMore := Lib.hid (fun (hd : isD z = true) => rsum_more HDg.out (by omega) (by rw [← hz]; exact hd))
                      have HBd := Lib.hid (fun (hd : isD z = false) => HBad.out j hj3 hj (by omega) (by rw [← hz]; exact hd))
                      clear hz HBad HOK HDg
                      have hzl := z.toNat_lt
                      by_cases z48 : z.toNat < 48
                      · have HX := Lib.hid (HBd.out (Bool.eq_false_iff.2 (fun h => by have := isD_iff.1 h; omega)))
                        have hzI : (z.toNat : Int) < 48 := by omega
                        clear HBd HMore HC' HD' HE' HF
                        go_wp2_with (go_at_call 21; refine (KS.out _).mono ?_; rintro e w2 ⟨rfl, rfl⟩)
                        exact bodyPost_ret (v := .tuple #[.slice none 0 0, .int .i64 (skipR s), .int .i64 11]) (by simp [results, Tryz.f7, go_sem]) rfl ⟨DecV_bad HX.out rfl, Below.refl _ _⟩
                      · have hzI : ¬ (z.toNat : Int) < 48 := by omega
                        by_cases z57 : 57 < z.toNat
                        · have HX := Lib.hid (HBd.out (Bool.eq_false_iff.2 (fun h => by have := isD_iff.1 h; omega)))
                          have hzI2 : (57 : Int) < (z.toNat : Int) := by omega
                          clear HBd HMore HC' HD' HE' HF
                          go_wp2_with (go_at_call 21; refine (KS.out _).mono ?_; rintro e w2 ⟨rfl, rfl⟩)
                          exact bodyPost_ret (v := .tuple #[.slice none 0 0, .int .i64 (skipR s), .int .i64 11]) (by simp [results, Tryz.f7, go_sem]) rfl ⟨DecV_bad HX.out rfl, Below.refl _ _⟩
                        · have hzI2 : ¬ (57 : Int) < (z.toNat : Int) := by omega
                          have HM2 := Lib.hid (HMore.out (isD_iff.2 (by omega)))
                          clear HBd HMore
                          go_wp2_with fail
                          go_roundw
                          case rel => exact RSumR.mk (j + 1) (by omega) (by omega) (by go_num) HM2.out
                          case measure => simp [intOf]; omega
                    · obtain rfl : j = 6 := by omega
                      have hlok := HOK.out HDg.out
                      have HN := Lib.hid (HF.out hlok)
                      have HC2 := Lib.hid (fun hn => HC'.out hlok hn)
                      have HD2 := Lib.hid (fun hn hf => HD'.out hlok hn hf)
                      have HE2 := Lib.hid (fun hn fs hf => HE'.out hlok hn fs hf)
                      unfold FieldsV at KP
                      generalize splitR BD = sp at *
                      clear HOK HBad HDg HF HC' HD' HE' hj hj3 hj6 hlok
                      have KWR : Hid (∀ W, Below w.heap.size w W → Calls Tryz.prog 22 #[.string ⟨BD.toArray⟩] W fun e w' => e = .returned (.string ⟨FB.toArray⟩) ∧ Below w.heap.size w w') := fun W b => (KW.out W (HE.out.pw.keep b)).mono fun e w' ⟨h1, h2⟩ => ⟨h1, b.trans (h2.mono b.size)⟩
                      clear KW
                      by_cases hfr : FB = SQ
                      · have hn := HN.out.1 hfr
                        have HD3 := Lib.hid (HD2.out hn)
                        have HE3 := Lib.hid (HE2.out hn)
                        clear HC2 HD2 HE2 HN hn
                        go_upto_region 30 with fail
                        have hwa : IntKind.i64.wrap ((p : Int) + (m : Int)) = (q : Int) := by rw [hqI]; exact IntWalk.i64_in _ (by omega)
                        have hwb : IntKind.i64.wrap (q : Int) = (q : Int) := IntWalk.i64_in _ (by omega)
                        have hwc : IntKind.i64.wrap ((q : Int) + 7) = (q : Int) + 7 := IntWalk.i64_in _ (by omega)
                        have hn0 : (0 : Int) ≤ (q : Int) + 7 := by omega
                        have hn1 : ((q : Int) + 7).toNat = q + 7 := by omega
                        have hn2 : (q : Int) ≤ (s.length : Int) := by omega
                        go_region_with (first | (go_at_call 22; refine (KWR.out _ (by first | exact Below.refl _ _ | exact below_drewN (Below.refl _ _) _ | exact (Below.refl _ _).drew)).mono ?_; rintro e w6 ⟨rfl, b6⟩))
                        all_goals
                          obtain ⟨W6, hW6⟩ : ∃ W6, W6 = w6 := ⟨_, rfl⟩
                          cases sp with
                          | none =>
                            have HX := Lib.hid (HD3.out rfl)
                            go_wp2_with (first
                              | (go_at_call 23; refine (KP.out _).mono ?_; rintro e w7 ⟨⟨v7, rfl, own7⟩, b7⟩)
                              | (go_at_call 21; refine (KS.out _).mono ?_; rintro e w8 ⟨rfl, rfl⟩))
                            exact bodyPost_ret (v := .tuple #[.slice none 0 0, .int .i64 (skipR s), .int .i64 11]) (by simp [results, Tryz.f7, go_sem]) rfl ⟨DecV_bad HX.out rfl, by first | exact b6.trans (b7.mono b6.size) | exact (below_drewN b6 _).trans (b7.mono b6.size) | exact b6.drew.trans (b7.mono b6.size)⟩
                          | some fs =>
                            have HX := Lib.hid (HE3.out fs rfl)
                            go_wp2_with (go_at_call 23; refine (KP.out _).mono ?_; rintro e w7 ⟨⟨v7, rfl, own7⟩, b7⟩)
                            exact bodyPost_ret (v := .tuple #[v7, .int .i64 ((q : Int) + 7), .int .i64 0]) (by simp [results, Tryz.f7, go_sem]) rfl ⟨DecV_ok HX.out (by omega) (own_mono (own7 fs rfl) (by first | exact b6.size | exact (below_drewN b6 _).size | exact b6.drew.size)), by first | exact b6.trans (b7.mono b6.size) | exact (below_drewN b6 _).trans (b7.mono b6.size) | exact b6.drew.trans (b7.mono b6.size)⟩
                      · have HX := Lib.hid (HC2.out (fun h => hfr (HN.out.2 h)))
                        have hfb : (FB == SQ) = false := by simpa using hfr
                        clear HC2 HD2 HE2 HN KP
                        go_upto_region 30 with fail
                        have hwa : IntKind.i64.wrap ((p : Int) + (m : Int)) = (q : Int) := by rw [hqI]; exact IntWalk.i64_in _ (by omega)
                        have hwb : IntKind.i64.wrap (q : Int) = (q : Int) := IntWalk.i64_in _ (by omega)
                        have hwc : IntKind.i64.wrap ((q : Int) + 7) = (q : Int) + 7 := IntWalk.i64_in _ (by omega)
                        have hn0 : (0 : Int) ≤ (q : Int) + 7 := by omega
                        have hn1 : ((q : Int) + 7).toNat = q + 7 := by omega
                        have hn2 : (q : Int) ≤ (s.length : Int) := by omega
                        go_region_with (first | (go_at_call 22; refine (KWR.out _ (by first | exact Below.refl _ _ | exact below_drewN (Below.refl _ _) _ | exact (Below.refl _ _).drew)).mono ?_; rintro e w6 ⟨rfl, b6⟩))
                        all_goals
                          go_wp2_with (go_at_call 21; refine (KS.out _).mono ?_; rintro e w2 ⟨rfl, rfl⟩)
                          exact bodyPost_ret (v := .tuple #[.slice none 0 0, .int .i64 (skipR s), .int .i64 12]) (by simp [results, Tryz.f7, go_sem]) rfl ⟨DecV_bad HX.out rfl, by first | exact b6 | exact below_drewN b6 _ | exact b6.drew⟩
                · have HX := Lib.hid (HB'.out (last_no3 (by rw [HY.out]; intro h; injection h with h; exact hy1 h)))
                  have hyn : (((((⟨T.toArray⟩ : ByteArray)[6]'(by omega)).toNat : Nat) : Int) == 1) = false := by
                    rw [hy6]
                    have : y.toNat ≠ 1 := fun h => hy1 (UInt8.toNat_inj.1 h)
                    simp; omega
                  clear HB' HC' HD' HE' HF
                  go_wp2_with (go_at_call 21; refine (KS.out _).mono ?_; rintro e w2 ⟨rfl, rfl⟩)
                  exact bodyPost_ret (v := .tuple #[.slice none 0 0, .int .i64 (skipR s), .int .i64 11]) (by simp [results, Tryz.f7, go_sem]) rfl ⟨DecV_bad HX.out rfl, Below.refl _ _⟩
              · have HX := Lib.hid (HB'.out (last_no1 h3))
                clear HB' HC' HD' HE' HF
                go_wp2_with (go_at_call 21; refine (KS.out _).mono ?_; rintro e w2 ⟨rfl, rfl⟩)
                exact bodyPost_ret (v := .tuple #[.slice none 0 0, .int .i64 (skipR s), .int .i64 11]) (by simp [results, Tryz.f7, go_sem]) rfl ⟨DecV_bad HX.out rfl, Below.refl _ _⟩
          · have HX := Lib.hid (dec_form ((HC.out).symm.trans (hS3.out (fun h => hm1 h.2) (.inl (by omega)))))
            obtain rfl : m = 0 := by omega
            clear hS2 hS3 HC
            go_wp2_with (go_at_call 21; refine (KS.out _).mono ?_; rintro e w2 ⟨rfl, rfl⟩)
            exact bodyPost_ret (v := .tuple #[.slice none 0 0, .int .i64 (skipR s), .int .i64 11]) (by simp [results, Tryz.f7, go_sem]) rfl ⟨DecV_bad HX.out rfl, Below.refl _ _⟩
        · have n1 : ((X : Int) == 1) = false := by simp; omega
          by_cases h2 : X < 48
          · have HX := Lib.hid (dec_form ((HC.out).symm.trans (hS3.out (fun h => h1 h.1) (.inl h2))))
            have h2' : (X : Int) < 48 := by omega
            clear hS1' hS2 hS3 HC
            go_wp2_with (go_at_call 21; refine (KS.out _).mono ?_; rintro e w2 ⟨rfl, rfl⟩)
            exact bodyPost_ret (v := .tuple #[.slice none 0 0, .int .i64 (skipR s), .int .i64 11]) (by simp [results, Tryz.f7, go_sem]) rfl ⟨DecV_bad HX.out rfl, Below.refl _ _⟩
          · have h2' : ¬ (X : Int) < 48 := by omega
            by_cases h3 : 57 < X
            · have HX := Lib.hid (dec_form ((HC.out).symm.trans (hS3.out (fun h => h1 h.1) (.inr (.inl h3)))))
              have h3' : (57 : Int) < (X : Int) := by omega
              clear hS1' hS2 hS3 HC
              go_wp2_with (go_at_call 21; refine (KS.out _).mono ?_; rintro e w2 ⟨rfl, rfl⟩)
              exact bodyPost_ret (v := .tuple #[.slice none 0 0, .int .i64 (skipR s), .int .i64 11]) (by simp [results, Tryz.f7, go_sem]) rfl ⟨DecV_bad HX.out rfl, Below.refl _ _⟩
            · have h3' : ¬ (57 : Int) < (X : Int) := by omega
              obtain ⟨D, hD⟩ : ∃ D : Nat, D = X - 48 := ⟨_, rfl⟩
              have hDle : D ≤ 9 := by omega
              have hw3 : IntKind.u8.wrap ((X : Int) - 48) = (D : Int) := by rw [IntKind.wrap_u8]; omega
              have hw4 : IntKind.i64.wrap (m * 10 : Int) = (m * 10 : Int) := IntWalk.i64_in _ (by omega)
              have hw5 : IntKind.i64.wrap (D : Int) = (D : Int) := IntWalk.i64_in _ (by omega)
              have hw6 : IntKind.i64.wrap ((m : Int) * 10 + (D : Int)) = (m : Int) * 10 + (D : Int) := IntWalk.i64_in _ (by omega)
              rw [← hD] at hS1' hS3
              have HDX := Lib.hid hD
              clear hD
              by_cases h4 : X = 48 ∧ m = 0
              · have HX := Lib.hid (dec_form ((HC.out).symm.trans (hS3.out (fun h => h1 h.1) (.inr (.inr (.inl h4))))))
                obtain ⟨rfl, rfl⟩ := h4
                clear hS1' hS2 hS3 hw3 hw4 hw5 hw6 HC
                go_wp2_with (go_at_call 21; refine (KS.out _).mono ?_; rintro e w2 ⟨rfl, rfl⟩)
                exact bodyPost_ret (v := .tuple #[.slice none 0 0, .int .i64 (skipR s), .int .i64 11]) (by simp [results, Tryz.f7, go_sem]) rfl ⟨DecV_bad HX.out rfl, Below.refl _ _⟩
              · by_cases hX : X = 48
                · skip
                  obtain rfl : D = 0 := by have := HDX.out; omega
                  subst hX
                  have n5 : ((m : Int) == 0) = false := by simp; omega
                  by_cases h5 : 4096 < m * 10
                  · have HX := Lib.hid (dec_form ((HC.out).symm.trans (hS3.out (fun h => h1 h.1) (.inr (.inr (.inr (by omega)))))))
                    have h5' : (4096 : Int) < (m : Int) * 10 := by omega
                    clear hS1' hS2 hS3 HC
                    go_wp2_with (go_at_call 21; refine (KS.out _).mono ?_; rintro e w2 ⟨rfl, rfl⟩)
                    exact bodyPost_ret (v := .tuple #[.slice none 0 0, .int .i64 (skipR s), .int .i64 11]) (by simp [results, Tryz.f7, go_sem]) rfl ⟨DecV_bad HX.out rfl, Below.refl _ _⟩
                  · have HX := Lib.hid (hS1'.out (fun h => h1 h.1) (by have := HDX.out; omega))
                    have h5' : ¬ (4096 : Int) < (m : Int) * 10 := by omega
                    have HM := Lib.hid (show m * 10 ≤ 4096 by omega)
                    have HK := Lib.hid (show k + 1 ≤ s.length by omega)
                    have HK12 := Lib.hid (show 12 ≤ k + 1 by omega)
                    clear hS1' hS2 hS3
                    go_wp2_with fail
                    go_roundw
                    case rel => exact RDecR.mk (k + 1) (m * 10) HK12.out HK.out (by go_num) (by go_num) HM.out HX.out
                    case measure => have := HK.out; simp [intOf]; omega
                · skip
                  have n6 : ((X : Int) == 48) = false := by simp; omega
                  by_cases h5 : 4096 < m * 10 + D
                  · have HX := Lib.hid (dec_form ((HC.out).symm.trans (hS3.out (fun h => h1 h.1) (.inr (.inr (.inr (by omega)))))))
                    have h5' : (4096 : Int) < (m : Int) * 10 + (D : Int) := by omega
                    clear hS1' hS2 hS3 HC
                    go_wp2_with (go_at_call 21; refine (KS.out _).mono ?_; rintro e w2 ⟨rfl, rfl⟩)
                    exact bodyPost_ret (v := .tuple #[.slice none 0 0, .int .i64 (skipR s), .int .i64 11]) (by simp [results, Tryz.f7, go_sem]) rfl ⟨DecV_bad HX.out rfl, Below.refl _ _⟩
                  · have HX := Lib.hid (hS1'.out (fun h => h1 h.1) (by have := HDX.out; omega))
                    have h5' : ¬ (4096 : Int) < (m : Int) * 10 + (D : Int) := by omega
                    have HM := Lib.hid (show m * 10 + D ≤ 4096 by omega)
                    have HK := Lib.hid (show k + 1 ≤ s.length by omega)
                    have HK12 := Lib.hid (show 12 ≤ k + 1 by omega)
                    clear hS1' hS2 hS3
                    go_wp2_with fail
                    go_roundw
                    case rel => exact RDecR.mk (k + 1) (m * 10 + D) HK12.out HK.out (by go_num) (by go_num) HM.out HX.out
                    case measure => have := HK.out; simp [intOf]; omega
      · have HX := Lib.hid (decode_short (s := s) (by rw [← HC.out, scanA_end (by omega) HS.out]))
        clear HS HC
        go_wp2_with fail
        exact bodyPost_ret (v := .tuple #[.slice none 0 0, .int .i64 0, .int .i64 10]) (by simp [results, Tryz.f7, go_sem]) rfl ⟨DecV_bad HX.out rfl, Below.refl _ _⟩
  · have HR := Lib.hid (dec_form (sizeR_form hA hB))
    rw [decide_eq_false hB] at P2
    by_cases hlen : s.length < 12
    · rw [decide_eq_false (fun h => hA ⟨hlen, h⟩)] at P1
      have hlI : (s.length : Int) < 12 := by omega
      have P1 := Lib.hid P1
      have P2 := Lib.hid P2
      clear hA hB hat E hlen
      go_enter Tryz.func7, Tryz.ntmps7
      go_wp2_with (first
        | (go_at_call 20; refine (P1.out _).mono ?_; rintro e w2 ⟨rfl, rfl⟩; clear P1)
        | (go_at_call 20; refine (P2.out _).mono ?_; rintro e w2 ⟨rfl, rfl⟩)
        | (go_at_call 21; refine (KS.out _).mono ?_; rintro e w2 ⟨rfl, rfl⟩))
      exact bodyPost_ret (v := .tuple #[.slice none 0 0, .int .i64 (skipR s), .int .i64 11]) (by simp [results, Tryz.f7, go_sem]) rfl ⟨DecV_bad HR.out rfl, Below.refl _ _⟩
    · have hlI : ¬ (s.length : Int) < 12 := by omega
      have P2 := Lib.hid P2
      clear hA hB hat E hlen P1
      go_enter Tryz.func7, Tryz.ntmps7
      go_wp2_with (first
        | (go_at_call 20; refine (P2.out _).mono ?_; rintro e w2 ⟨rfl, rfl⟩)
        | (go_at_call 21; refine (KS.out _).mono ?_; rintro e w2 ⟨rfl, rfl⟩))
      exact bodyPost_ret (v := .tuple #[.slice none 0 0, .int .i64 (skipR s), .int .i64 11]) (by simp [results, Tryz.f7, go_sem]) rfl ⟨DecV_bad HR.out rfl, Below.refl _ _⟩
end Go.Proofs.YtokinnkagdjciaaGreatDoor.TagW
