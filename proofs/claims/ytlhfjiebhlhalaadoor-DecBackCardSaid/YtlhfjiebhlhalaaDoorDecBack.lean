/- DecBack: the walk, and the step from the law's arguments to it. -/
import Derived.Test.YtlhfjiebhlhalaaDoorDecLawBase
import Derived.Test.YtlhfjiebhlhalaaDoorDecBackMath
namespace Go.Proofs.YtlhfjiebhlhalaaDoor.decBack
open Go.ChangeShapes Go.WideShapes Go.ChangeAt Go.RowKit Go.Proofs.YtlhfjiebhlhalaaDoor.Bas Go.Proofs.YtlhfjiebhlhalaaDoor.DecM Go.Proofs.YtlhfjiebhlhalaaDoor.FixpM Go.Proofs.YtlhfjiebhlhalaaDoor.FixpW Go.Proofs.YtlhfjiebhlhalaaDoor.DecW

theorem FmtR_cases (x p : Int) : ((FmtR x p).2 ≠ 0) ∨ (∃ q : Nat, p = q ∧ q ≤ 9 ∧ FmtR x p = (fmtF x q, 0) ∧ fits x = true) := by
  unfold FmtR
  by_cases h : p < 0 ∨ 9 < p
  · rw [if_pos h]; exact .inl (by decide)
  · rw [if_neg h]
    by_cases hf : fits x = true
    · rw [if_neg (by simp [hf])]
      exact .inr ⟨p.toNat, by omega, by omega, rfl, hf⟩
    · rw [if_pos (by simpa using hf)]
      exact .inl (by decide)
theorem fmtF_len (x : Int) (q : Nat) (hq : q ≤ 9) (hx : fits x = true) : (fmtF x q).length ≤ 40 := by
  have hxb : x.natAbs ≤ 4611686018427387904 := fits_i64 hx
  have h19 : Lib.nDigits x.natAbs ≤ 19 := by
    rcases Nat.lt_or_ge 19 (Lib.nDigits x.natAbs) with h1 | h1
    · have h2 := nd_low x.natAbs (by omega)
      have h3 : 10 ^ 19 ≤ 10 ^ (Lib.nDigits x.natAbs - 1) := Nat.pow_le_pow_right (by decide) (by omega)
      omega
    · exact h1
  have hl : (fmtL x.natAbs q).length ≤ len x.natAbs q + 1 := by
    unfold fmtL
    split
    · rw [low_len]; omega
    · have := len_ge x.natAbs q
      rw [List.length_append, List.length_cons, low_len, low_len]; omega
  have hs : (if x < 0 then [45] else ([] : List UInt8)).length ≤ 1 := by split <;> simp
  unfold fmtF
  rw [List.length_append]
  unfold len at hl
  omega
/-- the first half: what is formatted is read back -/
theorem first_ok (x p : Int) : (FmtR x p).2 ≠ 0 ∨ ((FmtR x p).2 = 0 ∧ ParR (FmtR x p).1 p = (x, 0) ∧ (FmtR x p).1.length ≤ 40) := by
  rcases FmtR_cases x p with h | ⟨q, rfl, hq, e, hf⟩
  · exact .inl h
  · refine .inr ?_
    rw [e]
    refine ⟨rfl, ?_, fmtF_len x q hq hf⟩
    unfold ParR
    rw [if_neg (by omega), Int.toNat_natCast]
    exact parse_fmt x q (by have := fits_i64 hf; unfold DecM.Max; omega)
/-- the second half -/
theorem second_ok (t : List UInt8) (p : Int) : ((ParR t p).2 ≠ 0 ∧ (ParR t p).1 = 0) ∨ ((ParR t p).2 = 0 ∧ I64 (ParR t p).1 ∧ ∃ rest, FmtR (ParR t p).1 p = (t ++ rest, 0) ∧ (t ++ rest).length ≤ 40 ∧ ∀ b ∈ rest, b = 48 ∨ b = 46) := by
  unfold ParR
  by_cases h : p < 0 ∨ 9 < p
  · rw [if_pos h]; exact .inl ⟨by decide, rfl⟩
  · rw [if_neg h]
    obtain ⟨q, rfl⟩ : ∃ q : Nat, p = q := ⟨p.toNat, by omega⟩
    rw [Int.toNat_natCast]
    obtain ⟨⟨y, c⟩, hy⟩ : ∃ v, v = parseF t q := ⟨_, rfl⟩
    rw [← hy]
    by_cases hc : c = 0
    · subst hc
      obtain ⟨h1, rest, h2, h3⟩ := fmt_parse hy.symm
      have hf : fits y = true := by rw [fits_abs]; unfold DecM.Max at h1; simpa using h1
      have hl := fmtF_len y q (by omega) hf
      refine .inr ⟨rfl, i64_of_fits hf, rest, ?_, by rw [← h2]; exact hl, h3⟩
      unfold FmtR
      rw [if_neg h, if_neg (by simp [hf]), Int.toNat_natCast, h2]
    · exact .inl ⟨hc, parse_zero hy.symm hc⟩

set_option maxHeartbeats 2000000 in
set_option maxRecDepth 20000 in
theorem walk (x : Int) (s : ByteArray) (p : Int) (w : World) (hs : s.size ≤ 140737488351232) (hx : I64 x) (hp : I64 p) (ht : Pow w) :
    Calls Tryd.prog 5 #[.int .i64 x, .string s, .int .i64 p] w fun e w' => e = .returned (.bool true) ∧ Below w.heap.size w w' := by
  have C0 := Lib.hid (wakes_calls w ht)
  have HT := Lib.hid ht
  have c1 := fun W h => format_calls x p W hx hp h
  have k1 := first_ok x p
  have k2 := second_ok s.data.toList p
  have c2 := fun W (h : (FmtR x p).1.length ≤ 40) => parse_calls (FmtR x p).1 p W (by omega) hp
  have c3 := fun W => parse_calls s.data.toList p W (Nat.le_trans hs (by decide)) hp
  rw [← ba_of s] at c3
  have c4 := fun W (h : I64 (ParR s.data.toList p).1) k => format_calls (ParR s.data.toList p).1 p W h hp k
  unfold FmtV at c1 c4
  unfold ParV at c2 c3
  obtain ⟨t, htt⟩ : ∃ t, t = s.data.toList := ⟨_, rfl⟩
  have hst : s = ⟨t.toArray⟩ := by rw [htt]
  rw [← htt] at k2 c3 c4
  generalize FmtR x p = v1 at *
  obtain ⟨l1, e1⟩ := v1
  simp only at k1 c1 c2
  generalize ParR l1 p = v2 at *
  obtain ⟨y2, e2⟩ := v2
  generalize ParR t p = v3 at *
  obtain ⟨y3, e3⟩ := v3
  simp only at k2 c3 c4
  generalize FmtR y3 p = v4 at *
  obtain ⟨l4, e4⟩ := v4
  subst hst
  have C1 := Lib.hid c1
  have C2 := Lib.hid c2
  have C3 := Lib.hid c3
  have C4 := Lib.hid c4
  clear c1 c2 c3 c4 hx hp ht hs htt
  go_enter Tryd.func5, Tryd.ntmps5
  rcases k1 with h1 | ⟨rfl, h1, h1l⟩
  · have h1' : (e1 == 0) = false := by simpa using h1
    clear h1 C2
    go_upto_region 9 with (first
      | (go_at_call 7; refine C0.out.mono ?_; rintro e w1 ⟨rfl, b1⟩)
      | (go_at_call 8; refine (C1.out _ (HT.out.keep b1)).mono ?_; rintro e w2 ⟨rfl, b2⟩; have B3 := b1.trans (b2.mono b1.size); clear C1)
      | (go_at_call 10; refine (C3.out _).mono ?_; rintro e w4 ⟨rfl, b4⟩; have B4 := B3.trans (b4.mono B3.size); clear C3))
    rcases k2 with ⟨h2, rfl⟩ | ⟨rfl, h3, rest, h4, hl4, h5⟩
    · have h2' : (e3 != 0) = true := by simpa using h2
      clear h2 C4
      go_wp2_with fail
      go_ret
      exact ⟨rfl, B4⟩
    · cases h4
      have HR := Lib.hid h5
      have htl : t.length + rest.length ≤ 40 := by rw [List.length_append] at hl4; exact hl4
      have hex : (⟨(t ++ rest).toArray⟩ : ByteArray).extract 0 t.length = ⟨t.toArray⟩ := by
        apply ByteArray.ext
        rw [ByteArray.data_extract]
        apply Array.toList_inj.1
        simp
      obtain ⟨S, hS⟩ : ∃ S : ByteArray, S = ⟨(t ++ rest).toArray⟩ := ⟨_, rfl⟩
      have hSz : S.size = t.length + rest.length := by rw [hS, ba_size, List.length_append]
      rw [← hS] at C4 hex
      have HS := Lib.hid hS
      clear h5 hl4 hS
      go_wp2_with (go_at_call 8; refine (C4.out _ h3 (HT.out.keep B4)).mono ?_; rintro e w5 ⟨rfl, b5⟩; have B5 := B4.trans (b5.mono B4.size))
      go_loop [12] (fun i => ∃ k : Nat, t.length ≤ k ∧ k ≤ S.size ∧ i = .int .i64 k) (fun i => S.size - (intOf i).toNat)
      case atStart => exact ⟨t.length, Nat.le_refl _, by omega, rfl⟩
      case round =>
        obtain ⟨k, hk1, hk2, rfl⟩ := hrel
        by_cases hlt : k < S.size
        · have hbb : S[k] = 48 ∨ S[k] = 46 := by
            have hlt2 : k < (t ++ rest).length := by rw [List.length_append]; omega
            have e1 : S[k] = (t ++ rest)[k]'hlt2 := by
              have := HS.out
              subst this
              rfl
            rw [e1, List.getElem_append_right hk1]
            exact HR.out _ (List.getElem_mem _)
          rcases hbb with hb | hb
          · have h8 : ((S[k].toNat : Int) != 48) = false := by rw [hb]; rfl
            clear hb
            go_wp2_with fail
            go_round
            case rel => exact ⟨k + 1, by omega, by omega, by go_num⟩
            case measure => simp [intOf]; omega
          · have h8 : ((S[k].toNat : Int) != 48) = true := by rw [hb]; rfl
            have h9 : ((S[k].toNat : Int) != 46) = false := by rw [hb]; rfl
            clear hb
            go_wp2_with fail
            go_round
            case rel => exact ⟨k + 1, by omega, by omega, by go_num⟩
            case measure => simp [intOf]; omega
        · go_wp2_with fail
          go_ret
          exact ⟨rfl, B5⟩
  · cases h1
    have hxx : (x != x) = false := by simp
    go_upto_region 9 with (first
      | (go_at_call 7; refine C0.out.mono ?_; rintro e w1 ⟨rfl, b1⟩)
      | (go_at_call 8; refine (C1.out _ (HT.out.keep b1)).mono ?_; rintro e w2 ⟨rfl, b2⟩; have B2 := b1.trans (b2.mono b1.size); clear C1)
      | (go_at_call 10; refine (C2.out _ h1l).mono ?_; rintro e w3 ⟨rfl, b3⟩; have B3 := B2.trans (b3.mono B2.size); clear C2)
      | (go_at_call 10; refine (C3.out _).mono ?_; rintro e w4 ⟨rfl, b4⟩; have B4 := B3.trans (b4.mono B3.size); clear C3))
    rcases k2 with ⟨h2, rfl⟩ | ⟨rfl, h3, rest, h4, hl4, h5⟩
    · have h2' : (e3 != 0) = true := by simpa using h2
      clear h2 C4
      go_wp2_with fail
      go_ret
      exact ⟨rfl, B4⟩
    · cases h4
      have HR := Lib.hid h5
      have htl : t.length + rest.length ≤ 40 := by rw [List.length_append] at hl4; exact hl4
      have hex : (⟨(t ++ rest).toArray⟩ : ByteArray).extract 0 t.length = ⟨t.toArray⟩ := by
        apply ByteArray.ext
        rw [ByteArray.data_extract]
        apply Array.toList_inj.1
        simp
      obtain ⟨S, hS⟩ : ∃ S : ByteArray, S = ⟨(t ++ rest).toArray⟩ := ⟨_, rfl⟩
      have hSz : S.size = t.length + rest.length := by rw [hS, ba_size, List.length_append]
      rw [← hS] at C4 hex
      have HS := Lib.hid hS
      clear h5 hl4 hS
      go_wp2_with (go_at_call 8; refine (C4.out _ h3 (HT.out.keep B4)).mono ?_; rintro e w5 ⟨rfl, b5⟩; have B5 := B4.trans (b5.mono B4.size))
      go_loop [12] (fun i => ∃ k : Nat, t.length ≤ k ∧ k ≤ S.size ∧ i = .int .i64 k) (fun i => S.size - (intOf i).toNat)
      case atStart => exact ⟨t.length, Nat.le_refl _, by omega, rfl⟩
      case round =>
        obtain ⟨k, hk1, hk2, rfl⟩ := hrel
        by_cases hlt : k < S.size
        · have hbb : S[k] = 48 ∨ S[k] = 46 := by
            have hlt2 : k < (t ++ rest).length := by rw [List.length_append]; omega
            have e1 : S[k] = (t ++ rest)[k]'hlt2 := by
              have := HS.out
              subst this
              rfl
            rw [e1, List.getElem_append_right hk1]
            exact HR.out _ (List.getElem_mem _)
          rcases hbb with hb | hb
          · have h8 : ((S[k].toNat : Int) != 48) = false := by rw [hb]; rfl
            clear hb
            go_wp2_with fail
            go_round
            case rel => exact ⟨k + 1, by omega, by omega, by go_num⟩
            case measure => simp [intOf]; omega
          · have h8 : ((S[k].toNat : Int) != 48) = true := by rw [hb]; rfl
            have h9 : ((S[k].toNat : Int) != 46) = false := by rw [hb]; rfl
            clear hb
            go_wp2_with fail
            go_round
            case rel => exact ⟨k + 1, by omega, by omega, by go_num⟩
            case measure => simp [intOf]; omega
        · go_wp2_with fail
          go_ret
          exact ⟨rfl, B5⟩

set_option maxRecDepth 100000 in
theorem opened (H : Type) (enc : TypeId × Value → H) (W : World) (base : Nat) (args : Array Value) (ds : List (DataW H)) (p : List MemPlace)
    (hval : ∀ (j : Nat) t v, Tryd.f5.params[j]? = some t → args[j]? = some v → Value.okWide Tryd.prog W .any base t v)
    (hA : DataW.TrodAll enc Tryd.prog W 0 (fun _ => true) true Tryd.f5.params.toList args.toList ds p)
    (hr : ∀ x ∈ DataW.weightsEach Tryd.prog Tryd.f5.params.toList ds, x ≤ reachBytes)
    (hL : laidMetH Tryd.prog Rows.decBackRow.laid W) :
    Calls Tryd.prog 5 args W fun e W' => e = .returned (.bool true) ∧ Below W.heap.size W W' := by
  rw [Tryd.params5] at hA hval hr
  have _ := hL
  obtain ⟨v0, vs0, d0, ds0, p0, q0, hargs, rfl, rfl, h0, r0⟩ := trodAll_cons hA
  obtain ⟨v1, vs1, d1, ds1, p1, q1, rfl, rfl, rfl, h1, r1⟩ := trodAll_cons r0
  obtain ⟨v2, vs2, d2, ds2, p2, q2, rfl, rfl, rfl, h2, r2⟩ := trodAll_cons r1
  obtain ⟨rfl, rfl, rfl⟩ := trodAll_nil r2
  obtain rfl : args = #[v0, v1, v2] := by cases args; simp_all
  obtain ⟨x, rfl, rfl, rfl, wx⟩ := open_int Tryd.underlying3 (hval 0 3 v0 rfl rfl) h0
  obtain ⟨s, rfl, rfl, rfl, ws⟩ := Go.ChangeMaps.open_string Tryd.underlying9 (hval 1 9 v1 rfl rfl) h1
  obtain ⟨p, rfl, rfl, rfl, wp⟩ := open_int Tryd.underlying3 (hval 2 3 v2 rfl rfl) h2
  have hsz := str_reach (P := Tryd.prog) (H := H) (t := 9) (l := s.data.toList) (fun x hx => hr x (by simp [DataW.weightsEach, hx]))
  exact walk x s p W hsz (i64_wf wx) (i64_wf wp) (pow_laid hL)
end Go.Proofs.YtlhfjiebhlhalaaDoor.decBack
