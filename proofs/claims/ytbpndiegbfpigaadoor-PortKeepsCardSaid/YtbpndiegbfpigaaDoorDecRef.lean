/- The walk of the document's Format. -/
import Derived.Test.YtbpndiegbfpigaaDoorDecWalks
namespace Go.Proofs.YtbpndiegbfpigaaDoor.DecW
open Go.RowKit Go.Proofs.YtbpndiegbfpigaaDoor.Bas Go.Proofs.YtbpndiegbfpigaaDoor.DecM Go.Proofs.YtbpndiegbfpigaaDoor.FixpM Go.Proofs.YtbpndiegbfpigaaDoor.FixpW

theorem u8_cell (d : Nat) (h : d < 10) : ((dgt d).toNat : Int) = 48 + d := by rw [dgt_toNat h]; omega
theorem ba_one (b : UInt8) (l : List UInt8) : (⟨#[b]⟩ : ByteArray) ++ ⟨l.toArray⟩ = ⟨(b :: l).toArray⟩ := ba_app [b] l
theorem str_ex {s : ByteArray} {l : List UInt8} (e : s = ⟨l.toArray⟩) (hl : l.length ≤ 40) : ∃ s', Value.string s = .string s' ∧ Hid (s' = ⟨l.toArray⟩) ∧ s'.size ≤ 40 := ⟨s, rfl, e, by rw [e]; exact hl⟩
theorem outL_len (X q k : Nat) : (outL X q k).length ≤ k + 1 := by
  unfold outL
  split
  · rw [low_len]; omega
  · simp [low_len]; omega

set_option maxHeartbeats 1000000 in
set_option maxRecDepth 20000 in
theorem rformat_calls (x p : Int) (w : World) (hx : I64 x) (hp : I64 p) :
    Calls Tryd.prog 25 #[.int .i64 x, .int .i64 p] w fun e w' => e = .returned (FmtV x p) ∧ Below w.heap.size w w' := by
  unfold I64 at hp hx
  go_enter Tryd.func25, Tryd.ntmps25
  by_cases h : p < 0 ∨ 9 < p
  · rw [FmtV_arg h]
    rcases h with h | h
    · go_wp2_with fail
      go_ret2
      exact ⟨rfl, Below.refl _ _⟩
    · go_wp2_with fail
      go_ret2
      exact ⟨rfl, Below.refl _ _⟩
  · by_cases hf : fits x = true
    · rw [FmtV_ok h hf]
      obtain ⟨q, rfl⟩ : ∃ q : Nat, p = q := ⟨p.toNat, by omega⟩
      have hq : q ≤ 9 := by omega
      rw [Int.toNat_natCast]
      have HF := Lib.hid hf
      have hxb : -4611686018427387904 ≤ x ∧ x ≤ 4611686018427387904 := by rw [fits_iff] at hf; omega
      obtain ⟨X, hX⟩ : ∃ X, X = x.natAbs := ⟨_, rfl⟩
      have hlen : len X q ≤ 30 := by
        have h19 : Lib.nDigits X ≤ 19 := by
          rcases Nat.lt_or_ge 19 (Lib.nDigits X) with h1 | h1
          · have h2 := nd_low X (by omega)
            have h3 : 10 ^ 19 ≤ 10 ^ (Lib.nDigits X - 1) := Nat.pow_le_pow_right (by decide) (by omega)
            omega
          · exact h1
        unfold len
        omega
      unfold fmtF
      rw [← hX]
      have HX := Lib.hid hX
      clear hf hX
      by_cases hneg : x < 0
      · obtain rfl : x = -(X : Int) := by have := HX.out; omega
        rw [if_pos hneg]
        clear HX
        go_wp2_with (go_at_call 35; refine (rfits_calls _ _).mono ?_; rw [HF.out]; rintro e w' ⟨rfl, rfl⟩)
        go_loopw [0, 7, 8] (fun y o n wr => ∃ k : Nat, k ≤ len X q ∧ n = .int .i64 k ∧ (∃ z : Nat, y = .int .i64 z ∧ Hid (z = X / 10 ^ k) ∧ (z : Int) ≤ 4611686018427387904) ∧ (∃ s : ByteArray, o = .string s ∧ Hid (s = ⟨(outL X q k).toArray⟩) ∧ s.size ≤ 40) ∧ Below w.heap.size w wr) (fun _ _ n _ => len X q - (intOf n).toNat)
        case atStart => exact ⟨0, by omega, rfl, ⟨X, rfl, by simp [Hid], by omega⟩, ⟨⟨#[]⟩, rfl, by rw [outL_zero]; exact rfl, by decide⟩, Below.refl _ _⟩
        case round =>
          obtain ⟨k, hk, rfl, ⟨z, rfl, hz, hzb⟩, ⟨s, rfl, hs, hsz⟩, hB⟩ := hrel
          by_cases hm : k ≤ q ∨ 0 < z
          · have hlt := more_lt X q k (by rw [← hz.out]; exact hm)
            obtain ⟨d, hdz⟩ : ∃ d, d = z % 10 := ⟨_, rfl⟩
            obtain ⟨z2, hz2⟩ : ∃ z2, z2 = z / 10 := ⟨_, rfl⟩
            have hd : d < 10 := by omega
            have hm10 : (z : Int) % 10 = (d : Int) := by omega
            have hq10 : (z : Int) / 10 = (z2 : Int) := by omega
            have hz2b : (z2 : Int) ≤ 4611686018427387904 := by omega
            have H1 := outL_succ X q k
            rw [← hz.out, ← hdz] at H1
            have hzd : Hid (z2 = X / 10 ^ (k + 1)) := by
              unfold Hid
              rw [hz2, hz.out, Nat.div_div_eq_div_mul, ← Nat.pow_succ]
            have s1 : (convert 62 9 (.slice (some ⟨wr.heap.size, 0, none⟩) 1 1)).run Tryd.prog (wr.alloc (.cells #[.int .u8 (48 + (d : Int))] 5)) = .ok (.string ⟨#[dgt d]⟩) (wr.alloc (.cells #[.int .u8 (48 + (d : Int))] 5)) := run_str_at (wr.alloc (.cells #[.int .u8 (48 + (d : Int))] 5)) Tryd.underlying62 Tryd.underlying5 Tryd.underlying9 (some ⟨wr.heap.size, 0, none⟩) 1 [dgt d] (by
              have := at_alloc wr #[.int .u8 (48 + (d : Int))] 5 (0, 0)
              rw [← u8_cell d hd] at this
              rw [← u8_cell d hd]
              exact this)
            have H1 := Lib.hid H1
            clear hdz hz2 hz
            have hout := outL_len X q (k + 1)
            by_cases h1 : k = q ∧ 0 < q
            · obtain ⟨rfl, hq0⟩ := h1
              have H2 := H1.out
              rw [if_pos ⟨rfl, hq0⟩] at H2
              have H3 := Lib.hid H2
              clear H1 H2
              have hkk : ((k : Int) == (k : Int)) = true := by simp
              go_wp2_with fail
              go_roundw
              case rel => exact ⟨k + 1, by omega, by go_num, ⟨z2, rfl, hzd, hz2b⟩, str_ex (by rw [H3.out, hs.out]; exact by rw [ba_one, ba_one]) (by omega), hB.alloc (hB.size) _⟩
              case measure => simp [intOf]; omega
            · have H2 := H1.out
              rw [if_neg h1] at H2
              have H3 := Lib.hid H2
              clear H1 H2
              by_cases hkq : k = q
              · obtain rfl : q = 0 := by omega
                subst hkq
                clear h1
                go_wp2_with fail
                go_roundw
                case rel => exact ⟨0 + 1, by omega, by go_num, ⟨z2, rfl, hzd, hz2b⟩, str_ex (by rw [H3.out, hs.out]; exact by rw [ba_one]) (by omega), hB.alloc (hB.size) _⟩
                case measure => simp [intOf]; omega
              · have hke : ((k : Int) == (q : Int)) = false := by simp; omega
                clear h1
                by_cases h2 : k < q
                · have h5 : (k : Int) ≤ q := by omega
                  clear h2 hm
                  go_wp2_with fail
                  go_roundw
                  case rel => exact ⟨k + 1, by omega, by go_num, ⟨z2, rfl, hzd, hz2b⟩, str_ex (by rw [H3.out, hs.out]; exact by rw [ba_one]) (by omega), hB.alloc (hB.size) _⟩
                  case measure => simp [intOf]; omega
                · have h3 : ¬ (k : Int) ≤ q := by omega
                  have h4 : (0 : Int) < z := by omega
                  go_wp2_with fail
                  go_roundw
                  case rel => exact ⟨k + 1, by omega, by go_num, ⟨z2, rfl, hzd, hz2b⟩, str_ex (by rw [H3.out, hs.out]; exact by rw [ba_one]) (by omega), hB.alloc (hB.size) _⟩
                  case measure => simp [intOf]; omega
          · have h1 : ¬ k ≤ q := fun h => hm (.inl h)
            have hz0 : z = 0 := by omega
            have hkl := stop_len X q k (by omega) (by rw [← hz.out]; exact hz0) hk
            subst hz0 hkl
            go_wp2_with fail
            go_ret2
            rw [outL_end] at hs
            exact ⟨ret_fmt (by rw [hs.out]; exact ba_one _ _), hB⟩
      · obtain rfl : x = (X : Int) := by have := HX.out; omega
        rw [if_neg hneg]
        clear HX
        go_wp2_with (go_at_call 35; refine (rfits_calls _ _).mono ?_; rw [HF.out]; rintro e w' ⟨rfl, rfl⟩)
        go_loopw [0, 7, 8] (fun y o n wr => ∃ k : Nat, k ≤ len X q ∧ n = .int .i64 k ∧ (∃ z : Nat, y = .int .i64 z ∧ Hid (z = X / 10 ^ k) ∧ (z : Int) ≤ 4611686018427387904) ∧ (∃ s : ByteArray, o = .string s ∧ Hid (s = ⟨(outL X q k).toArray⟩) ∧ s.size ≤ 40) ∧ Below w.heap.size w wr) (fun _ _ n _ => len X q - (intOf n).toNat)
        case atStart => exact ⟨0, by omega, rfl, ⟨X, rfl, by simp [Hid], by omega⟩, ⟨⟨#[]⟩, rfl, by rw [outL_zero]; exact rfl, by decide⟩, Below.refl _ _⟩
        case round =>
          obtain ⟨k, hk, rfl, ⟨z, rfl, hz, hzb⟩, ⟨s, rfl, hs, hsz⟩, hB⟩ := hrel
          by_cases hm : k ≤ q ∨ 0 < z
          · have hlt := more_lt X q k (by rw [← hz.out]; exact hm)
            obtain ⟨d, hdz⟩ : ∃ d, d = z % 10 := ⟨_, rfl⟩
            obtain ⟨z2, hz2⟩ : ∃ z2, z2 = z / 10 := ⟨_, rfl⟩
            have hd : d < 10 := by omega
            have hm10 : (z : Int) % 10 = (d : Int) := by omega
            have hq10 : (z : Int) / 10 = (z2 : Int) := by omega
            have hz2b : (z2 : Int) ≤ 4611686018427387904 := by omega
            have H1 := outL_succ X q k
            rw [← hz.out, ← hdz] at H1
            have hzd : Hid (z2 = X / 10 ^ (k + 1)) := by
              unfold Hid
              rw [hz2, hz.out, Nat.div_div_eq_div_mul, ← Nat.pow_succ]
            have s1 : (convert 62 9 (.slice (some ⟨wr.heap.size, 0, none⟩) 1 1)).run Tryd.prog (wr.alloc (.cells #[.int .u8 (48 + (d : Int))] 5)) = .ok (.string ⟨#[dgt d]⟩) (wr.alloc (.cells #[.int .u8 (48 + (d : Int))] 5)) := run_str_at (wr.alloc (.cells #[.int .u8 (48 + (d : Int))] 5)) Tryd.underlying62 Tryd.underlying5 Tryd.underlying9 (some ⟨wr.heap.size, 0, none⟩) 1 [dgt d] (by
              have := at_alloc wr #[.int .u8 (48 + (d : Int))] 5 (0, 0)
              rw [← u8_cell d hd] at this
              rw [← u8_cell d hd]
              exact this)
            have H1 := Lib.hid H1
            clear hdz hz2 hz
            have hout := outL_len X q (k + 1)
            by_cases h1 : k = q ∧ 0 < q
            · obtain ⟨rfl, hq0⟩ := h1
              have H2 := H1.out
              rw [if_pos ⟨rfl, hq0⟩] at H2
              have H3 := Lib.hid H2
              clear H1 H2
              have hkk : ((k : Int) == (k : Int)) = true := by simp
              go_wp2_with fail
              go_roundw
              case rel => exact ⟨k + 1, by omega, by go_num, ⟨z2, rfl, hzd, hz2b⟩, str_ex (by rw [H3.out, hs.out]; exact by rw [ba_one, ba_one]) (by omega), hB.alloc (hB.size) _⟩
              case measure => simp [intOf]; omega
            · have H2 := H1.out
              rw [if_neg h1] at H2
              have H3 := Lib.hid H2
              clear H1 H2
              by_cases hkq : k = q
              · obtain rfl : q = 0 := by omega
                subst hkq
                clear h1
                go_wp2_with fail
                go_roundw
                case rel => exact ⟨0 + 1, by omega, by go_num, ⟨z2, rfl, hzd, hz2b⟩, str_ex (by rw [H3.out, hs.out]; exact by rw [ba_one]) (by omega), hB.alloc (hB.size) _⟩
                case measure => simp [intOf]; omega
              · have hke : ((k : Int) == (q : Int)) = false := by simp; omega
                clear h1
                by_cases h2 : k < q
                · have h5 : (k : Int) ≤ q := by omega
                  clear h2 hm
                  go_wp2_with fail
                  go_roundw
                  case rel => exact ⟨k + 1, by omega, by go_num, ⟨z2, rfl, hzd, hz2b⟩, str_ex (by rw [H3.out, hs.out]; exact by rw [ba_one]) (by omega), hB.alloc (hB.size) _⟩
                  case measure => simp [intOf]; omega
                · have h3 : ¬ (k : Int) ≤ q := by omega
                  have h4 : (0 : Int) < z := by omega
                  go_wp2_with fail
                  go_roundw
                  case rel => exact ⟨k + 1, by omega, by go_num, ⟨z2, rfl, hzd, hz2b⟩, str_ex (by rw [H3.out, hs.out]; exact by rw [ba_one]) (by omega), hB.alloc (hB.size) _⟩
                  case measure => simp [intOf]; omega
          · have h1 : ¬ k ≤ q := fun h => hm (.inl h)
            have hz0 : z = 0 := by omega
            have hkl := stop_len X q k (by omega) (by rw [← hz.out]; exact hz0) hk
            subst hz0 hkl
            go_wp2_with fail
            go_ret2
            rw [outL_end] at hs
            exact ⟨ret_fmt (by rw [hs.out]; rfl), hB⟩
    · have hf' : fits x = false := by simpa using hf
      rw [FmtV_over h hf']
      clear hf
      go_wp2_with (go_at_call 35; refine (rfits_calls x _).mono ?_; rw [hf']; rintro e w' ⟨rfl, rfl⟩)
      go_ret2
      exact ⟨rfl, Below.refl _ _⟩
end Go.Proofs.YtbpndiegbfpigaaDoor.DecW
