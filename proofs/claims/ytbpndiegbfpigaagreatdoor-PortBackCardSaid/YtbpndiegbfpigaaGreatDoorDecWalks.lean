/- The walks of dec.Format and of the document's. -/
import Derived.Test.YtbpndiegbfpigaaGreatDoorDecParseMath
import Derived.Test.YtbpndiegbfpigaaGreatDoorFixpWalks
import Derived.Test.YtbpndiegbfpigaaGreatDoorBase
import Derived.Shelf.Strings.SlTrimAscii
import Derived.Lib.AppendIntMem
import Derived.Deep.Cut
namespace Go.Proofs.YtbpndiegbfpigaaGreatDoor.DecW
open Go.RowKit Go.Proofs.YtbpndiegbfpigaaGreatDoor.Bas Go.Proofs.YtbpndiegbfpigaaGreatDoor.DecM Go.Proofs.YtbpndiegbfpigaaGreatDoor.FixpM Go.Proofs.YtbpndiegbfpigaaGreatDoor.FixpW

/-- the table of powers of ten -/
def Pow (w : World) : Prop := Lib.TabIs Tryz.prog w "internal/strconv.uint64pow10" .u64 Lib.pow10Tab
theorem Pow.keep {w w' : World} (h : Pow w) (hb : Below w.heap.size w w') : Pow w' := Lib.tabBelow_of_tabIs h w' hb
theorem ba_app (a b : List UInt8) : ((⟨a.toArray⟩ : ByteArray) ++ (⟨b.toArray⟩ : ByteArray)) = ⟨(a ++ b).toArray⟩ := by
  apply ByteArray.ext
  rw [ByteArray.data_append]
  simp
theorem ba_size (a : List UInt8) : (⟨a.toArray⟩ : ByteArray).size = a.length := rfl
theorem ba_of (s : ByteArray) : s = ⟨s.data.toList.toArray⟩ := by cases s; simp
theorem ba_inj {a b : List UInt8} (h : (⟨a.toArray⟩ : ByteArray) = ⟨b.toArray⟩) : a = b := by
  have := congrArg ByteArray.data h
  simpa using this
/-- what Format answers -/
def FmtR (x p : Int) : List UInt8 × Int := if p < 0 ∨ 9 < p then ([], 1) else if fits x = false then ([], 4) else (fmtF x p.toNat, 0)
def FmtV (x p : Int) : Value := .tuple #[.string ⟨(FmtR x p).1.toArray⟩, .int .i64 (FmtR x p).2]
theorem FmtV_arg {x p : Int} (h : p < 0 ∨ 9 < p) : FmtV x p = .tuple #[.string ⟨#[]⟩, .int .i64 1] := by unfold FmtV FmtR; rw [if_pos h]
theorem FmtV_over {x p : Int} (h : ¬ (p < 0 ∨ 9 < p)) (hf : fits x = false) : FmtV x p = .tuple #[.string ⟨#[]⟩, .int .i64 4] := by unfold FmtV FmtR; rw [if_neg h, if_pos hf]
theorem FmtV_ok {x p : Int} (h : ¬ (p < 0 ∨ 9 < p)) (hf : fits x = true) : FmtV x p = .tuple #[.string ⟨(fmtF x p.toNat).toArray⟩, .int .i64 0] := by unfold FmtV FmtR; rw [if_neg h, if_neg (by simp [hf])]

theorem itoa_calls (X : Nat) (w : World) (hX : X ≤ 4611686018427387904) (ht : Pow w) :
    Calls Tryz.prog 30 #[.int .i64 (X : Int)] w fun e w' => e = .returned (.string ⟨(Lib.decDigits X).toArray⟩) ∧ Below w.heap.size w w' := by
  refine (Tryz.strconv_Itoa (X : Int) (by omega) (by omega) w ht).mono ?_
  rintro e w' ⟨rfl, k, os, rfl⟩
  rw [Lib.itoa_nonneg]
  exact ⟨rfl, Lib.below_grow _ _ (Nat.le_refl _) _ _⟩
theorem rep_calls (c : Int) (w : World) (h0 : 0 ≤ c) (h1 : c ≤ 1000) :
    Calls Tryz.prog 31 #[.string ⟨#[48]⟩, .int .i64 c] w fun e w' => e = .returned (.string ⟨(Lib.repeatL [48] c.toNat).toArray⟩) ∧ Below w.heap.size w w' := by
  have h := Tryz.strings_Repeat ⟨#[48]⟩ c.toNat w (by omega) (by rw [show (⟨#[48]⟩ : ByteArray).size = 1 from rfl]; omega)
  rwa [Int.toNat_of_nonneg h0] at h
theorem fmt_bytes (X q : Nat) (hq : q ≠ 0) (S : ByteArray) (hS : S = ⟨(low X (len X q)).toArray⟩) (sg : List UInt8) :
    (⟨sg.toArray⟩ : ByteArray) ++ S.extract 0 (len X q - q) ++ ⟨#[46]⟩ ++ S.extract (len X q - q) S.size = ⟨(sg ++ fmtL X q).toArray⟩ := by
  have h := fmt_split X q hq
  rw [← h]
  apply ByteArray.ext
  simp only [ByteArray.data_append, ByteArray.data_extract, hS]
  apply Array.toList_inj.1
  have hl : (low X (len X q)).length = len X q := low_len _ _
  simp [ByteArray.size, hl]
  exact List.take_of_length_le (by simp; omega)
theorem fmt_bytes0 (X : Nat) (S : ByteArray) (hS : S = ⟨(low X (len X 0)).toArray⟩) (sg : List UInt8) :
    (⟨sg.toArray⟩ : ByteArray) ++ S = ⟨(sg ++ fmtL X 0).toArray⟩ := by
  rw [hS, ba_app]; rfl

theorem ret_fmt {a b : ByteArray} {c : Int} (h : a = b) : Ending.returned (.tuple #[.string a, .int .i64 c]) = .returned (.tuple #[.string b, .int .i64 c]) := by rw [h]
set_option maxHeartbeats 1000000 in
theorem format_calls (x p : Int) (w : World) (hx : I64 x) (hp : I64 p) (ht : Pow w) :
    Calls Tryz.prog 18 #[.int .i64 x, .int .i64 p] w fun e w' => e = .returned (FmtV x p) ∧ Below w.heap.size w w' := by
  unfold I64 at hp
  have HT := Lib.hid ht
  have HI := Lib.hid hx
  clear ht
  go_enter Tryz.func18, Tryz.ntmps18
  by_cases h : p < 0 ∨ 9 < p
  · rw [FmtV_arg h]
    clear HT HI hx
    rcases h with h | h
    · go_wp2_with fail
      go_ret2
      exact ⟨rfl, Below.refl _ _⟩
    · go_wp2_with fail
      go_ret2
      exact ⟨rfl, Below.refl _ _⟩
  · by_cases hf : fits x = true
    · rw [FmtV_ok h hf]
      obtain ⟨q, rfl⟩ : ∃ q : Nat, p = q := ⟨p.toNat, by omega⟩
      have hq : q ≤ 9 := by omega
      rw [Int.toNat_natCast]
      have HF := Lib.hid hf
      have hxb : -4611686018427387904 ≤ x ∧ x ≤ 4611686018427387904 := by rw [fits_iff] at hf; omega
      have hn1 := Lib.nDigits_pos x.natAbs
      have hlen := Lib.decDigits_length x.natAbs
      have HI2 := Lib.hid (fun W h => itoa_calls x.natAbs W (by omega) h)
      obtain ⟨X, hX⟩ : ∃ X, X = x.natAbs := ⟨_, rfl⟩
      unfold fmtF
      rw [← hX] at hn1 hlen HI2 ⊢
      obtain ⟨n, hn⟩ : ∃ n, n = Lib.nDigits X := ⟨_, rfl⟩
      rw [← hn] at hn1 hlen
      have hn20 : n ≤ 19 := by
        rw [hn]
        rcases Nat.lt_or_ge 19 (Lib.nDigits X) with h1 | h1
        · have h2 := nd_low X (by omega)
          have h3 : 10 ^ 19 ≤ 10 ^ (Lib.nDigits X - 1) := Nat.pow_le_pow_right (by decide) (by omega)
          omega
        · exact h1
      have HP : n ≤ q → ∃ R : ByteArray, R.size = q + 1 - n ∧ Hid (∀ W, Calls Tryz.prog 31 #[.string ⟨#[48]⟩, .int .i64 ((q : Int) + 1 - n)] W fun e w' => e = .returned (.string R) ∧ Below W.heap.size W w') ∧ Hid (R ++ ⟨(Lib.decDigits X).toArray⟩ = ⟨(low X (len X q)).toArray⟩ ∧ len X q = q + 1) := fun h1 => by
        have h2 := pad_eq X q (by omega)
        have h3 : ((q : Int) + 1 - n).toNat = q + 1 - Lib.nDigits X := by omega
        refine ⟨⟨(Lib.repeatL [48] ((q : Int) + 1 - n).toNat).toArray⟩, ?_, fun W => rep_calls _ W (by omega) (by omega), ?_, by unfold len; omega⟩
        · rw [ba_size, Lib.repeatL_length, h3, hn]; simp
        · rw [ba_app, h3, h2]
      have HN : ¬ n ≤ q → Hid ((⟨(Lib.decDigits X).toArray⟩ : ByteArray) = ⟨(low X (len X q)).toArray⟩ ∧ len X q = n) := fun h1 => by
        have h2 := nopad_eq X q (by omega)
        exact ⟨by rw [h2], by unfold len; omega⟩
      have hsz : (⟨(Lib.decDigits X).toArray⟩ : ByteArray).size = n := hlen
      obtain ⟨D, hD⟩ : ∃ D : ByteArray, D = ⟨(Lib.decDigits X).toArray⟩ := ⟨_, rfl⟩
      rw [← hD] at hsz HP HN HI2
      have HX := Lib.hid hX
      clear hX hn hlen hD hx hf
      by_cases hneg : x < 0
      · obtain rfl : x = -(X : Int) := by have := HX.out; omega
        rw [if_pos hneg]
        by_cases hnq : n ≤ q
        · obtain ⟨R, hRs, HRep, H1⟩ := HP hnq
          clear HP HN
          go_upto_region 11 with (first
            | (go_at_call 29; refine (fits_calls _ _ HI.out).mono ?_; rw [HF.out]; rintro e w' ⟨rfl, rfl⟩)
            | (go_at_call 30; refine (HI2.out _ HT.out).mono ?_; rintro e w2 ⟨rfl, b2⟩)
            | (go_at_call 31; refine (HRep.out _).mono ?_; rintro e w3 ⟨rfl, b3⟩; have b4 := b2.trans (b3.mono b2.size)))
          rw [H1.out.1]
          have hL := Lib.hid H1.out.2
          have hS : (⟨(low X (len X q)).toArray⟩ : ByteArray).size = q + 1 := by rw [ba_size, low_len]; exact hL.out
          obtain ⟨S, hSS⟩ : ∃ S : ByteArray, S = ⟨(low X (len X q)).toArray⟩ := ⟨_, rfl⟩
          rw [← hSS] at hS ⊢
          have HSS := Lib.hid hSS
          clear hSS H1
          by_cases hq0 : q = 0
          · subst hq0
            have HB := Lib.hid (fmt_bytes0 X S HSS.out [45])
            go_wp2_with fail
            go_ret2
            exact ⟨ret_fmt HB.out, b4⟩
          · have hq1 : ((q : Int) == 0) = false := by simp; omega
            have HB := Lib.hid (fmt_bytes X q hq0 S HSS.out [45])
            go_wp2_with fail
            go_quiet (fail)
            go_wp2_with fail
            go_ret2
            exact ⟨ret_fmt (by have h9 := HB.out; rw [show len X q - q = 1 by rw [hL.out]; omega, hS] at h9; exact h9), below_drewN b4 nq⟩
        · have H1 := HN hnq
          clear HP HN
          go_upto_region 11 with (first
            | (go_at_call 29; refine (fits_calls _ _ HI.out).mono ?_; rw [HF.out]; rintro e w' ⟨rfl, rfl⟩)
            | (go_at_call 30; refine (HI2.out _ HT.out).mono ?_; rintro e w2 ⟨rfl, b4⟩))
          have hS := hsz
          rw [H1.out.1] at hS ⊢
          have hL := Lib.hid H1.out.2
          obtain ⟨S, hSS⟩ : ∃ S : ByteArray, S = ⟨(low X (len X q)).toArray⟩ := ⟨_, rfl⟩
          rw [← hSS] at hS ⊢
          have HSS := Lib.hid hSS
          clear hSS H1
          by_cases hq0 : q = 0
          · subst hq0
            have HB := Lib.hid (fmt_bytes0 X S HSS.out [45])
            go_wp2_with fail
            go_ret2
            exact ⟨ret_fmt HB.out, b4⟩
          · have hq1 : ((q : Int) == 0) = false := by simp; omega
            have HB := Lib.hid (fmt_bytes X q hq0 S HSS.out [45])
            go_wp2_with fail
            go_quiet (fail)
            go_wp2_with fail
            go_ret2
            exact ⟨ret_fmt (by have h9 := HB.out; rw [hL.out, hS] at h9; exact h9), below_drewN b4 nq⟩
      · obtain rfl : x = (X : Int) := by have := HX.out; omega
        rw [if_neg hneg]
        by_cases hnq : n ≤ q
        · obtain ⟨R, hRs, HRep, H1⟩ := HP hnq
          clear HP HN
          go_upto_region 11 with (first
            | (go_at_call 29; refine (fits_calls _ _ HI.out).mono ?_; rw [HF.out]; rintro e w' ⟨rfl, rfl⟩)
            | (go_at_call 30; refine (HI2.out _ HT.out).mono ?_; rintro e w2 ⟨rfl, b2⟩)
            | (go_at_call 31; refine (HRep.out _).mono ?_; rintro e w3 ⟨rfl, b3⟩; have b4 := b2.trans (b3.mono b2.size)))
          rw [H1.out.1]
          have hL := Lib.hid H1.out.2
          have hS : (⟨(low X (len X q)).toArray⟩ : ByteArray).size = q + 1 := by rw [ba_size, low_len]; exact hL.out
          obtain ⟨S, hSS⟩ : ∃ S : ByteArray, S = ⟨(low X (len X q)).toArray⟩ := ⟨_, rfl⟩
          rw [← hSS] at hS ⊢
          have HSS := Lib.hid hSS
          clear hSS H1
          by_cases hq0 : q = 0
          · subst hq0
            have HB := Lib.hid (fmt_bytes0 X S HSS.out [])
            go_wp2_with fail
            go_ret2
            exact ⟨ret_fmt HB.out, b4⟩
          · have hq1 : ((q : Int) == 0) = false := by simp; omega
            have HB := Lib.hid (fmt_bytes X q hq0 S HSS.out [])
            go_wp2_with fail
            go_quiet (fail)
            go_wp2_with fail
            go_ret2
            exact ⟨ret_fmt (by have h9 := HB.out; rw [show len X q - q = 1 by rw [hL.out]; omega, hS] at h9; exact h9), below_drewN b4 nq⟩
        · have H1 := HN hnq
          clear HP HN
          go_upto_region 11 with (first
            | (go_at_call 29; refine (fits_calls _ _ HI.out).mono ?_; rw [HF.out]; rintro e w' ⟨rfl, rfl⟩)
            | (go_at_call 30; refine (HI2.out _ HT.out).mono ?_; rintro e w2 ⟨rfl, b4⟩))
          have hS := hsz
          rw [H1.out.1] at hS ⊢
          have hL := Lib.hid H1.out.2
          obtain ⟨S, hSS⟩ : ∃ S : ByteArray, S = ⟨(low X (len X q)).toArray⟩ := ⟨_, rfl⟩
          rw [← hSS] at hS ⊢
          have HSS := Lib.hid hSS
          clear hSS H1
          by_cases hq0 : q = 0
          · subst hq0
            have HB := Lib.hid (fmt_bytes0 X S HSS.out [])
            go_wp2_with fail
            go_ret2
            exact ⟨ret_fmt HB.out, b4⟩
          · have hq1 : ((q : Int) == 0) = false := by simp; omega
            have HB := Lib.hid (fmt_bytes X q hq0 S HSS.out [])
            go_wp2_with fail
            go_quiet (fail)
            go_wp2_with fail
            go_ret2
            exact ⟨ret_fmt (by have h9 := HB.out; rw [hL.out, hS] at h9; exact h9), below_drewN b4 nq⟩
    · have hf' : fits x = false := by simpa using hf
      rw [FmtV_over h hf']
      clear hf
      go_wp2_with (go_at_call 29; refine (fits_calls x _ HI.out).mono ?_; rw [hf']; rintro e w' ⟨rfl, rfl⟩)
      go_ret2
      exact ⟨rfl, Below.refl _ _⟩
end Go.Proofs.YtbpndiegbfpigaaGreatDoor.DecW
