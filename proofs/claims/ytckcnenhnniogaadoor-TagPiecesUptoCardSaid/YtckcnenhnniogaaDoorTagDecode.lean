/- The walk of tag.Decode. -/
import Derived.Test.YtckcnenhnniogaaDoorTagFields
import Derived.Test.YtckcnenhnniogaaDoorTagSkips
import Derived.Test.YtckcnenhnniogaaDoorDecCut
import Derived.Test.YtckcnenhnniogaaDoorTagBackMath
set_option linter.unusedSimpArgs false
set_option linter.unusedVariables false
namespace Go.Proofs.YtckcnenhnniogaaDoor.TagW
open Go.RowKit Go.Proofs.YtckcnenhnniogaaDoor.Bas Go.Proofs.YtckcnenhnniogaaDoor.FixpM Go.Proofs.YtckcnenhnniogaaDoor.FixpW Go.Proofs.YtckcnenhnniogaaDoor.DecW Go.Proofs.YtckcnenhnniogaaDoor.FldW Go.Proofs.YtckcnenhnniogaaDoor.TagM Go.Proofs.YtckcnenhnniogaaDoor.DecM

theorem scanA_cases : ∀ (l : List UInt8) (p n : Nat), (∃ q m, scanA p n l = ((q, m), 0)) ∨ scanA p n l = ((0, 0), 10) ∨ scanA p n l = ((0, 0), 11)
  | [], p, n => .inr (.inl rfl)
  | b :: l, p, n => by
    unfold scanA
    split
    · exact .inl ⟨_, _, rfl⟩
    · split
      · exact .inr (.inr rfl)
      · exact scanA_cases l _ _
theorem size_cases (s : List UInt8) : sizeR s = ((0, 0), 10) ∨ sizeR s = ((0, 0), 11) ∨ ∃ p n, sizeR s = ((p, n), 0) ∧ 1 ≤ n ∧ n ≤ 4096 ∧ p ≤ s.length ∧ p ≤ 17 := by
  have key : (∃ q m, sizeR s = ((q, m), 0)) ∨ sizeR s = ((0, 0), 10) ∨ sizeR s = ((0, 0), 11) := by
    unfold sizeR
    split
    · exact .inr (.inl rfl)
    · split
      · exact scanA_cases _ _ _
      · exact .inr (.inr rfl)
  rcases key with ⟨p, n, h⟩ | h | h
  · obtain ⟨_, h1, h2, h3, h4⟩ := sizeR_says h
    have := digits_le n (by omega)
    exact .inr (.inr ⟨p, n, h, h1, h2, h3, by omega⟩)
  · exact .inl h
  · exact .inr (.inl h)
theorem dec_form {s : List UInt8} (h : sizeR s = ((0, 0), 11)) : decodeR s = (([], skipR s), 11) := by
  unfold decodeR; rw [h]; dsimp only; rw [if_neg (by decide), if_pos (by decide)]
section
variable {s : List UInt8} {p n q : Nat} (h : sizeR s = ((p, n), 0)) (hq : q = p + n)
include h hq
theorem dec_a (hs : s.length < q + 7) : decodeR s = (([], 0), 10) := by
  subst hq; unfold decodeR; rw [h]; dsimp only; rw [if_neg (by decide), if_neg (by simp), if_pos hs]
theorem dec_b (hs : ¬ s.length < q + 7) (hl : lastOk ((s.drop q).take 7) = false) : decodeR s = (([], skipR s), 11) := by
  subst hq; unfold decodeR; rw [h]; dsimp only; rw [if_neg (by decide), if_neg (by simp), if_neg hs, if_pos hl]
theorem dec_c (hs : ¬ s.length < q + 7) (hl : lastOk ((s.drop q).take 7) = true) (hn : (((s.drop q).take 7).drop 3).take 3 ≠ DecM.low (smallB (s.take q)) 3) : decodeR s = (([], skipR s), 12) := by
  subst hq; unfold decodeR; rw [h]; dsimp only; rw [if_neg (by decide), if_neg (by simp), if_neg hs, if_neg (by simp [hl]), if_pos hn]
theorem dec_d (hs : ¬ s.length < q + 7) (hl : lastOk ((s.drop q).take 7) = true) (hn : (((s.drop q).take 7).drop 3).take 3 = DecM.low (smallB (s.take q)) 3) (hf : splitR ((s.drop p).take n) = none) : decodeR s = (([], skipR s), 11) := by
  subst hq; unfold decodeR; rw [h]; dsimp only; rw [if_neg (by decide), if_neg (by simp), if_neg hs, if_neg (by simp [hl]), if_neg (by simp [hn]), hf]
theorem dec_e (hs : ¬ s.length < q + 7) (hl : lastOk ((s.drop q).take 7) = true) (hn : (((s.drop q).take 7).drop 3).take 3 = DecM.low (smallB (s.take q)) 3) {fs : List Fld} (hf : splitR ((s.drop p).take n) = some fs) : decodeR s = ((fs, q + 7), 0) := by
  subst hq; unfold decodeR; rw [h]; dsimp only; rw [if_neg (by decide), if_neg (by simp), if_neg hs, if_neg (by simp [hl]), if_neg (by simp [hn]), hf]
end
theorem last_eq {t : List UInt8} (ht : t.length = 7) : lastOk t = (Lib.hasPrefix (t.take 6) [49, 48, 61] && decide (t.drop 6 = [1]) && decide (Lib.trimS (Lib.trimPrefix (t.take 6) [49, 48, 61]) tenD = [])) ∧ (lastOk t = true → Lib.trimPrefix (t.take 6) [49, 48, 61] = (t.drop 3).take 3) := by
  match t, ht with
  | [a, b, c, d, e, f, g], _ =>
    have h1 : Lib.hasPrefix ([a, b, c, d, e, f, g].take 6) [49, 48, 61] = decide ([a, b, c] = [49, 48, 61]) := by
      rw [Bool.eq_iff_iff]
      simp [Lib.hasPrefix, List.isPrefixOf]
      constructor
      · rintro ⟨rfl, rfl, rfl⟩; exact ⟨rfl, rfl, rfl⟩
      · rintro ⟨rfl, rfl, rfl⟩; exact ⟨rfl, rfl, rfl⟩
    by_cases h : [a, b, c] = [49, 48, 61]
    · have h2 : Lib.trimPrefix ([a, b, c, d, e, f, g].take 6) [49, 48, 61] = [d, e, f] := by
        unfold Lib.trimPrefix
        rw [h1, decide_eq_true h]; rfl
      have h3 := trim_ten [d, e, f]
      refine ⟨?_, fun _ => h2⟩
      rw [h1, h2, Bool.eq_iff_iff]
      unfold lastOk
      simp only [Bool.and_eq_true, decide_eq_true_eq, h3]
      constructor
      · rintro ⟨⟨x, y⟩, z⟩; exact ⟨⟨x, z⟩, y⟩
      · rintro ⟨⟨x, z⟩, y⟩; exact ⟨⟨x, y⟩, z⟩
    · have h4 : lastOk [a, b, c, d, e, f, g] = false := by
        unfold lastOk
        rw [show [a, b, c, d, e, f, g].take 3 = [a, b, c] from rfl, decide_eq_false h]; rfl
      refine ⟨?_, fun h5 => by rw [h4] at h5; cases h5⟩
      rw [h4, h1, decide_eq_false h]; rfl
theorem own_mono {w : World} {b b' : Nat} {e : TypeId} {size : Nat} {v : Value} {n : Nat} {xs : List Value} (h : w.ownsRow b e size v n xs) (hb : b' ≤ b) : w.ownsRow b' e size v n xs := by
  refine ⟨h.1, ?_⟩
  rcases h.2 with hn | ⟨g, cap, cur, rfl, hbg, hg⟩
  · exact .inl hn
  · exact .inr ⟨g, cap, cur, rfl, Nat.le_trans hb hbg, hg⟩
/-- what Decode answers -/
def DecV (s : List UInt8) (base : Nat) (e : Ending) (w' : World) : Prop :=
  ∃ v, e = .returned (.tuple #[v, .int .i64 ((decodeR s).1.2 : Int), .int .i64 (decodeR s).2]) ∧ w'.ownsRow base 39 2 v (decodeR s).1.1.length (fcells (decodeR s).1.1)
theorem DecV_bad {s : List UInt8} {n : Nat} {e k : Int} {base : Nat} {w' : World} (h : decodeR s = (([], n), e)) (hk : k = (n : Int)) : DecV s base (.returned (.tuple #[.slice none 0 0, .int .i64 k, .int .i64 e])) w' := by
  refine ⟨.slice none 0 0, ?_, ?_⟩
  · rw [h, hk]
  · rw [h]; exact World.ownsRow_nil _ _ _ _
theorem DecV_ok {s : List UInt8} {fs : List Fld} {n : Nat} {k : Int} {base : Nat} {w' : World} {v : Value} (h : decodeR s = ((fs, n), 0)) (hk : k = (n : Int)) (ho : w'.ownsRow base 39 2 v fs.length (fcells fs)) : DecV s base (.returned (.tuple #[v, .int .i64 k, .int .i64 0])) w' := by
  refine ⟨v, ?_, ?_⟩
  · rw [h, hk]
  · rw [h]; exact ho
theorem ext_take (l : List UInt8) (n : Nat) : (⟨l.toArray⟩ : ByteArray).extract 0 n = ⟨(l.take n).toArray⟩ := by
  apply ByteArray.ext
  rw [ByteArray.data_extract]
  apply Array.toList_inj.1
  simp
set_option maxHeartbeats 2000000 in
set_option maxRecDepth 20000 in
theorem tdecode_calls (s : List UInt8) (a : Option Addr) (cap : Nat) (w : World) (hl : s.length ≤ 400000) (hcap : s.length ≤ cap) (hat : At w a (u8s s)) (E : Env w) :
    Calls Tryd.prog 17 #[.slice a s.length cap] w fun e w' => DecV s w.heap.size e w' ∧ Below w.heap.size w w' := by
  have KZ := tsize_calls s a cap w (by omega) hcap hat
  rcases size_cases s with h | h | ⟨p, n, h, h1, h2, h3, h4⟩
  · rw [h] at KZ
    have KZ := Lib.hid KZ
    have HR := Lib.hid (decode_short (s := s) (by rw [h]))
    clear h
    simp only at KZ
    go_enter Tryd.func17, Tryd.ntmps17
    go_wp2_with (go_at_call 23; refine KZ.out.mono ?_; rintro e w1 ⟨rfl, rfl⟩)
    exact bodyPost_ret (v := .tuple #[.slice none 0 0, .int .i64 0, .int .i64 10]) (by simp [results, Tryd.f17, go_sem]) rfl ⟨DecV_bad HR.out rfl, Below.refl _ _⟩
  · rw [h] at KZ
    have KZ := Lib.hid KZ
    have h1s : 1 ≤ s.length := by
      rcases Nat.eq_zero_or_pos s.length with h0 | h0
      · have := List.length_eq_zero_iff.1 h0
        subst this
        cases h
      · exact h0
    obtain ⟨m, hm⟩ := E.ml
    have KS := Lib.hid (tskip_calls s a cap w m (by omega) h1s hcap hat hm)
    have HR := Lib.hid (dec_form h)
    clear h hm E hat
    simp only at KZ
    go_enter Tryd.func17, Tryd.ntmps17
    go_wp2_with (first
      | (go_at_call 23; refine KZ.out.mono ?_; rintro e w1 ⟨rfl, rfl⟩)
      | (go_at_call 24; refine KS.out.mono ?_; rintro e w2 ⟨rfl, b2⟩))
    exact bodyPost_ret (v := .tuple #[.slice none 0 0, .int .i64 (skipR s), .int .i64 11]) (by simp [results, Tryd.f17, go_sem]) rfl ⟨DecV_bad HR.out rfl, b2⟩
  · rw [h] at KZ
    have KZ := Lib.hid KZ
    obtain ⟨q, hq⟩ : ∃ q, q = p + n := ⟨_, rfl⟩
    have hI1 : (p : Int) + (n : Int) = (q : Int) := by omega
    simp only at KZ
    by_cases hsh : s.length < q + 7
    · have HR := Lib.hid (dec_a h hq hsh)
      have hsI : (s.length : Int) < (q : Int) + 7 := by omega
      clear h hsh E hat hq
      go_enter Tryd.func17, Tryd.ntmps17
      go_wp2_with (go_at_call 23; refine KZ.out.mono ?_; rintro e w1 ⟨rfl, rfl⟩)
      exact bodyPost_ret (v := .tuple #[.slice none 0 0, .int .i64 0, .int .i64 10]) (by simp [results, Tryd.f17, go_sem]) rfl ⟨DecV_bad HR.out rfl, Below.refl _ _⟩
    · have hsI : ¬ (s.length : Int) < (q : Int) + 7 := by omega
      obtain ⟨g, off, rfl, hc0⟩ := hat 0 _ (u8s_get s 0 (by omega))
      obtain ⟨m, hm⟩ := E.ml
      have HM := Lib.hid hm
      have HA := Lib.hid hat
      have HE := Lib.hid E
      have KS := Lib.hid (fun W (b : Below w.heap.size w W) => tskip_calls s (some ⟨g, off, none⟩) cap W m (by omega) (by omega) hcap (hat.keep b) ((b.cell (World.block_lt_of_cell? w _ hm)).trans hm))
      have HB' := Lib.hid (dec_b h hq hsh)
      have HC' := Lib.hid (dec_c h hq hsh)
      have HD' := Lib.hid (dec_d h hq hsh)
      have HE' := Lib.hid (fun hl hn fs hf => dec_e h hq hsh hl hn (fs := fs) hf)
      obtain ⟨T, hT⟩ : ∃ T, T = (s.drop q).take 7 := ⟨_, rfl⟩
      have hTl : T.length = 7 := by rw [hT]; simp; omega
      have hTa : At w (some ⟨g, off + q, none⟩) (u8s T) := by
        have := At.take (At.drop hat q) 7
        rw [hT]; unfold u8s at this ⊢; rw [List.map_take]; exact this
      have hcv := fun c => run_back_at (P := Tryd.prog) (src := 25) (dst := 9) (cap := c) Tryd.underlying25 Tryd.underlying5 Tryd.underlying9 hTa
      rw [hTl] at hcv
      rw [← hT] at HB' HC' HD' HE'
      obtain ⟨L1, L2⟩ := last_eq hTl
      have KP := fun W => Tryd.strings_CutPrefix ⟨(T.take 6).toArray⟩ ⟨#[49, 48, 61]⟩ W
      rw [show (⟨(T.take 6).toArray⟩ : ByteArray).data.toList = T.take 6 by simp, show (⟨#[49, 48, 61]⟩ : ByteArray).data.toList = [49, 48, 61] from rfl] at KP
      have hSS : (Lib.trimPrefix (T.take 6) [49, 48, 61]).length ≤ 6 := by
        have := Lib.trimPrefix_le (T.take 6) [49, 48, 61]
        rw [List.length_take] at this; omega
      have KT := fun W => trim_calls ⟨(Lib.trimPrefix (T.take 6) [49, 48, 61]).toArray⟩ tenD W (Nat.le_trans hSS (by decide)) (by decide) (by decide)
      rw [show (⟨(Lib.trimPrefix (T.take 6) [49, 48, 61]).toArray⟩ : ByteArray).data.toList = Lib.trimPrefix (T.take 6) [49, 48, 61] by simp] at KT
      generalize Lib.trimPrefix (T.take 6) [49, 48, 61] = SS at *
      generalize Lib.trimS SS tenD = TS at *
      generalize Lib.hasPrefix (T.take 6) [49, 48, 61] = pr at *
      have hE1 := ext_take T 6
      have hE2 : (⟨T.toArray⟩ : ByteArray).extract 6 7 = ⟨(T.drop 6).toArray⟩ := by rw [← hTl]; exact extract_drop T 6
      have hz7 : (⟨T.toArray⟩ : ByteArray).size = 7 := hTl
      have KP := Lib.hid KP
      have KT := Lib.hid KT
      have HL1 := Lib.hid L1
      have HL2 := Lib.hid L2
      have hcq : ¬ cap = q := by omega
      have htq : (s.take q).length = q := by rw [List.length_take]; omega
      have hdp : ((s.drop p).take n).length = n := by rw [List.length_take, List.length_drop]; omega
      have CS := fun W (b : Below w.heap.size w W) => SumW.small_calls (some ⟨g, off, none⟩) cap (s.take q) W (by omega) (by have := At.take (hat.keep b) q; unfold u8s at this ⊢; rw [List.map_take]; exact this)
      simp only [smallB_n, htq] at CS
      have hsm := smallB_lt (s.take q)
      have CT := Lib.hid (fun W (b : Below w.heap.size w W) => three_calls (smallB (s.take q)) W hsm (HE.out.pw.keep b))
      have CF := fun c W (b : Below w.heap.size w W) => tfields_calls ((s.drop p).take n) (some ⟨g, off + p, none⟩) c W (by omega) (by have := (At.take (At.drop hat p) n).keep b; unfold u8s at this ⊢; rw [List.map_take]; exact this) (HE.out.keep b)
      rw [hdp] at CF
      have CS := Lib.hid CS
      have CF := Lib.hid CF
      have hlo : (DecM.low (smallB (s.take q)) 3).length = 3 := DecM.low_len 3 _
      generalize smallB (s.take q) = sm at *
      generalize DecM.low sm 3 = lo at *
      generalize (s.drop p).take n = BD at *
      clear htq hdp
      clear hT h hc0 hm E L1 L2 hat hq
      go_enter Tryd.func17, Tryd.ntmps17
      go_upto_region 9 with (go_at_call 23; refine KZ.out.mono ?_; rintro e w1 ⟨rfl, rfl⟩)
      go_upto_region 10 with (go_at_call 25; refine (KP.out _).mono ?_; rintro e w2 ⟨rfl, rfl⟩)
      clear KP KZ hcv hTa hE1
      cases pr with
      | false =>
        have HR := Lib.hid (HB'.out (by rw [HL1.out]; rfl))
        go_wp2_with (go_at_call 24; refine (KS.out _ (Below.refl _ _)).mono ?_; rintro e w3 ⟨rfl, BB⟩)
        exact bodyPost_ret (v := .tuple #[.slice none 0 0, .int .i64 (skipR s), .int .i64 11]) (by simp [results, Tryd.f17, go_sem]) rfl ⟨DecV_bad HR.out rfl, BB⟩
      | true =>
        generalize hX : T.drop 6 = X at *
        by_cases hg : X = [1]
        · subst hg
          by_cases hts : TS = []
          · subst hts
            have hok : lastOk T = true := by rw [HL1.out]; rfl
            have HC2 := Lib.hid (fun hn => HC'.out hok (by rw [← HL2.out hok]; exact hn))
            have HD2 := Lib.hid (fun hn hf => HD'.out hok (by rw [← HL2.out hok]; exact hn) hf)
            have HE2 := Lib.hid (fun hn fs hf => HE'.out hok (by rw [← HL2.out hok]; exact hn) fs hf)
            clear HB' HC' HD' HE' HL1 HL2 hok
            go_upto_region 12 with (go_at_call 26; refine (KT.out _).mono ?_; rintro e w3 ⟨rfl, b3⟩)
            clear KT
            by_cases hn : SS = lo
            · subst hn
              have HD3 := Lib.hid (HD2.out rfl)
              have HE3 := Lib.hid (HE2.out rfl)
              clear HC2 HD2 HE2
              go_upto_region 14 with (first
                | (go_at_call 14; refine (CS.out _ b3).mono ?_; rintro e w4 ⟨rfl, rfl⟩)
                | (go_at_call 13; refine (CT.out _ b3).mono ?_; rintro e w5 ⟨rfl, b5⟩; have B5 := b3.trans (b5.mono b3.size)))
              clear CS CT b3 b5
              unfold FieldsV at CF
              have hqp : q - p = n := by omega
              cases hsp : splitR BD with
              | none =>
                have HR := Lib.hid (HD3.out hsp)
                simp only [hsp, Option.isSome_none] at CF
                clear HD3 HE3 hsp
                go_wp2_with (first
                  | (go_at_call 27; refine (CF.out _ _ B5).mono ?_; rintro e w6 ⟨⟨v6, rfl, own6⟩, b6⟩; have B6 := B5.trans (b6.mono B5.size))
                  | (go_at_call 24; refine (KS.out _ B6).mono ?_; rintro e w7 ⟨rfl, b7⟩; have BB := B6.trans (b7.mono B6.size)))
                exact bodyPost_ret (v := .tuple #[.slice none 0 0, .int .i64 (skipR s), .int .i64 11]) (by simp [results, Tryd.f17, go_sem]) rfl ⟨DecV_bad HR.out rfl, BB⟩
              | some fs =>
                have HR := Lib.hid (HE3.out fs hsp)
                simp only [hsp, Option.isSome_some] at CF
                clear HD3 HE3 hsp
                go_wp2_with (go_at_call 27; refine (CF.out _ _ B5).mono ?_; rintro e w6 ⟨⟨v6, rfl, own6⟩, b6⟩; have B6 := B5.trans (b6.mono B5.size); have O6 := own_mono (own6 fs rfl) B5.size)
                exact bodyPost_ret (v := .tuple #[v6, .int .i64 ((q : Int) + 7), .int .i64 0]) (by simp [results, Tryd.f17, go_sem]) rfl ⟨DecV_ok HR.out (by omega) O6, B6⟩
            · have HR := Lib.hid (HC2.out hn)
              have hnb : (SS == lo) = false := by simpa using hn
              clear HC2 HD2 HE2 CF
              go_wp2_with (first
                | (go_at_call 14; refine (CS.out _ b3).mono ?_; rintro e w4 ⟨rfl, rfl⟩)
                | (go_at_call 13; refine (CT.out _ b3).mono ?_; rintro e w5 ⟨rfl, b5⟩; have B5 := b3.trans (b5.mono b3.size))
                | (go_at_call 24; refine (KS.out _ B5).mono ?_; rintro e w6 ⟨rfl, b6⟩; have BB := B5.trans (b6.mono B5.size)))
              exact bodyPost_ret (v := .tuple #[.slice none 0 0, .int .i64 (skipR s), .int .i64 12]) (by simp [results, Tryd.f17, go_sem]) rfl ⟨DecV_bad HR.out rfl, BB⟩
          · have HR := Lib.hid (HB'.out (by rw [HL1.out, decide_eq_false hts]; simp))
            have htb : (TS == []) = false := by simpa using hts
            have hte : TS.isEmpty = false := by simpa using hts
            clear HB' HC' HD' HE' HL1 HL2
            go_wp2_with (first
              | (go_at_call 26; refine (KT.out _).mono ?_; rintro e w3 ⟨rfl, b3⟩)
              | (go_at_call 24; refine (KS.out _ b3).mono ?_; rintro e w4 ⟨rfl, b4⟩; have BB := b3.trans (b4.mono b3.size)))
            exact bodyPost_ret (v := .tuple #[.slice none 0 0, .int .i64 (skipR s), .int .i64 11]) (by simp [results, Tryd.f17, go_sem]) rfl ⟨DecV_bad HR.out rfl, BB⟩
        · have HR := Lib.hid (HB'.out (by rw [HL1.out, decide_eq_false hg]; simp))
          go_wp2_with (go_at_call 24; refine (KS.out _ (Below.refl _ _)).mono ?_; rintro e w3 ⟨rfl, BB⟩)
          exact bodyPost_ret (v := .tuple #[.slice none 0 0, .int .i64 (skipR s), .int .i64 11]) (by simp [results, Tryd.f17, go_sem]) rfl ⟨DecV_bad HR.out rfl, BB⟩
end Go.Proofs.YtckcnenhnniogaaDoor.TagW
