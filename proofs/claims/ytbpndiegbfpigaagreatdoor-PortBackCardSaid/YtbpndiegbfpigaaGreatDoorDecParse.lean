/- The walk of dec.Parse. -/
import Derived.Test.YtbpndiegbfpigaaGreatDoorDecCut
namespace Go.Proofs.YtbpndiegbfpigaaGreatDoor.DecW
open Go.RowKit Go.Proofs.YtbpndiegbfpigaaGreatDoor.Bas Go.Proofs.YtbpndiegbfpigaaGreatDoor.DecM Go.Proofs.YtbpndiegbfpigaaGreatDoor.FixpM Go.Proofs.YtbpndiegbfpigaaGreatDoor.FixpW

/-- what Parse answers -/
def ParR (t : List UInt8) (p : Int) : Int × Int := if p < 0 ∨ 9 < p then (0, 1) else parseF t p.toNat
def ParV (t : List UInt8) (p : Int) : Value := .tuple #[.int .i64 (ParR t p).1, .int .i64 (ParR t p).2]
theorem ParV_arg {t : List UInt8} {p : Int} (h : p < 0 ∨ 9 < p) : ParV t p = .tuple #[.int .i64 0, .int .i64 1] := by unfold ParV ParR; rw [if_pos h]
theorem ParV_of {t : List UInt8} {p : Nat} (h : ¬ ((p : Int) < 0 ∨ 9 < (p : Int))) {a b : Int} (e : parseF t p = (a, b)) : ParV t p = .tuple #[.int .i64 a, .int .i64 b] := by unfold ParV ParR; rw [if_neg h, Int.toNat_natCast, e]
theorem bad_form {t : List UInt8} {p : Nat} (h : bad t p = true) : parseF t p = (0, 11) := by unfold parseF; rw [h]; rfl
theorem trim_minus (t : List UInt8) : Lib.trimPrefix t [45] = restT t ∧ Lib.hasPrefix t [45] = negT t := by
  have h : Lib.hasPrefix t [45] = negT t := by
    unfold Lib.hasPrefix negT
    cases t with
    | nil => rfl
    | cons b l =>
      simp only [List.isPrefixOf, List.head?_cons]
      rw [Bool.eq_iff_iff]
      simp
      exact eq_comm
  refine ⟨?_, h⟩
  unfold Lib.trimPrefix restT
  rw [h]
  cases t with
  | nil => rfl
  | cons b l => rfl
theorem rest_len (t : List UInt8) : (restT t).length ≤ t.length := by
  unfold restT
  split
  · simp
  · exact Nat.le_refl _
theorem whole_len (r : List UInt8) : (wholeT r).length + (partT r).length ≤ r.length ∧ (wholeT r).length ≤ r.length := by
  have h : (wholeT r).length ≤ r.length := by unfold wholeT; exact (List.takeWhile_prefix _).length_le
  unfold partT
  rw [List.length_drop]
  omega
/-- what the texts of a call are, by their parts -/
structure Parts (t : List UInt8) (W Q : List UInt8) (P N : Bool) : Prop where
  w : wholeT (restT t) = W
  q : partT (restT t) = Q
  p : pointT (restT t) = P
  n : negT t = N
theorem Parts.of (t : List UInt8) : ∃ W Q P N, Parts t W Q P N := ⟨_, _, _, _, rfl, rfl, rfl, rfl⟩
section
variable {t W Q : List UInt8} {P N : Bool} {p : Nat}
theorem Parts.bad (h : Parts t W Q P N) : DecM.bad t p = ((!digs W || (decide (1 < W.length) && W.head? == some 48)) || (P && (!digs Q || decide (p < Q.length))) || (N && decide (val (W ++ Q) = 0))) := by
  unfold DecM.bad badW badP badN
  rw [h.w, h.q, h.p, h.n]
theorem Parts.all (h : Parts t W Q P N) (hw : digs W = true) (hq : P = true → digs Q = true) : W.all isD = true ∧ Q.all isD = true := by
  have h1 : W.all isD = true := by unfold digs at hw; simp only [Bool.and_eq_true] at hw; exact hw.2
  refine ⟨h1, ?_⟩
  cases hP : P with
  | true => have := hq hP; unfold digs at this; simp only [Bool.and_eq_true] at this; exact this.2
  | false =>
    rcases split_eq (restT t) with ⟨h2, _⟩ | ⟨_, _, h2⟩
    · rw [h.p, hP] at h2; cases h2
    · rw [← h.q, h2]; rfl
theorem Parts.ok (h : Parts t W Q P N) (hb : DecM.bad t p = false) : parseF t p = if DecM.Max < amt (restT t) p then (0, 4) else (if N then -(amt (restT t) p : Int) else (amt (restT t) p : Int), 0) := by
  unfold parseF
  rw [hb, h.n]; rfl
end
/-- how Parse goes on where the text has the form -/
structure Good (t W Q : List UInt8) (P N : Bool) (q : Nat) (A : List UInt8) (u : Nat) : Prop where
  len : A.length = (Lib.trimLeftB (W ++ Q ++ Lib.repeatL [48] (q - Q.length)) 48).length
  a : Lib.trimLeftB (W ++ Q ++ Lib.repeatL [48] (q - Q.length)) 48 = A
  big : 19 < A.length → parseF t q = (0, 4)
  nil : A = [] → parseF t q = (0, 0)
  uint : A ≠ [] → A.length ≤ 19 → Lib.parseUintB 64 A = .ok u
  over : 4611686018427387904 < u → parseF t q = (0, 4)
  fine : u ≤ 4611686018427387904 → parseF t q = ((if N then -(u : Int) else (u : Int)), 0)
theorem Parts.good {t W Q : List UInt8} {P N : Bool} {q : Nat} (h : Parts t W Q P N) (hb : DecM.bad t q = false) : ∃ A u, Good t W Q P N q A u := by
  have hb' := hb
  rw [h.bad] at hb'
  simp only [Bool.or_eq_false_iff, Bool.not_eq_false'] at hb'
  have hw : digs W = true := hb'.1.1.1
  have hq : P = true → digs Q = true := fun hP => by
    have := hb'.1.2
    rw [hP] at this
    simp at this
    exact this.1
  obtain ⟨h1, h2⟩ := h.all hw hq
  have e : wholeT (restT t) = W := h.w
  have e2 : partT (restT t) = Q := h.q
  obtain ⟨a1, a2, a3, a4⟩ := all_ok (r := restT t) (p := q) (by rw [e]; exact h1) (by rw [e2]; exact h2)
  have hA : Lib.trimLeftB (W ++ Q ++ Lib.repeatL [48] (q - Q.length)) 48 = allT (restT t) q := by
    unfold allT
    rw [e, e2, Lib.trimLeftS_one]
  have hok := h.ok hb
  refine ⟨allT (restT t) q, amt (restT t) q, by rw [hA], hA, fun hx => ?_, fun hx => ?_, fun hx hy => ?_, fun hx => ?_, fun hx => ?_⟩
  · rw [hok, if_pos (a4 hx)]
  · rw [hok, a3.1 hx, if_neg (by unfold DecM.Max; omega)]
    cases N <;> simp
  · rw [← a2]
    exact uint_of a1 hx hy
  · rw [hok, if_pos (by unfold DecM.Max; exact hx)]
  · rw [hok, if_neg (by unfold DecM.Max; omega)]
theorem uint_below {B : Nat} {w W W' : World} {s : ByteArray} (h : Below B w W) (h2 : W' = W ∨ W' = Lib.bytesWorld W 5 s) (hB : B ≤ W.heap.size) : Below B w W' := by
  rcases h2 with rfl | rfl
  · exact h
  · exact h.trans ((Lib.bytesWorld_below W _ s).mono hB)
theorem trim_list (l cs : List UInt8) (w : World) (hs : l.length ≤ 9223372036854775807) (hc : cs.length < 4294967281) (ha : cs.all (fun b => decide (b.toNat < 128)) = true) :
    Calls Tryz.prog 35 #[.string ⟨l.toArray⟩, .string ⟨cs.toArray⟩] w fun e w' => e = .returned (.string ⟨(Lib.trimS l cs).toArray⟩) ∧ Below w.heap.size w w' := trim_calls ⟨l.toArray⟩ cs w hs hc ha
theorem ret_par {t : List UInt8} {p : Nat} {a b : Int} (h : ¬ ((p : Int) < 0 ∨ 9 < (p : Int))) (e : parseF t p = (a, b)) : Ending.returned (.tuple #[.int .i64 a, .int .i64 b]) = .returned (ParV t p) := by rw [ParV_of h e]

set_option maxHeartbeats 2000000 in
set_option maxRecDepth 20000 in
theorem parse_calls (t : List UInt8) (p : Int) (w : World) (hs : t.length ≤ 9223372036854775000) (hp : I64 p) :
    Calls Tryz.prog 21 #[.string ⟨t.toArray⟩, .int .i64 p] w fun e w' => e = .returned (ParV t p) ∧ Below w.heap.size w w' := by
  unfold I64 at hp
  by_cases h : p < 0 ∨ 9 < p
  · rw [ParV_arg h]
    go_enter Tryz.func21, Tryz.ntmps21
    rcases h with h | h
    · go_wp2_with fail
      go_ret2
      exact ⟨rfl, Below.refl _ _⟩
    · go_wp2_with fail
      go_ret2
      exact ⟨rfl, Below.refl _ _⟩
  obtain ⟨q, rfl⟩ : ∃ q : Nat, p = q := ⟨p.toNat, by omega⟩
  have hq9 : (q : Int) ≤ 9 := by omega
  have HH := Lib.hid h
  clear h hp
  have c1 := fun W => Tryz.strings_CutPrefix ⟨t.toArray⟩ ⟨#[45]⟩ W
  rw [show (⟨t.toArray⟩ : ByteArray).data.toList = t by simp, show (⟨#[45]⟩ : ByteArray).data.toList = [45] from rfl, (trim_minus t).1, (trim_minus t).2] at c1
  have hrl := rest_len t
  have c2 := fun W => cut_calls (restT t) W (by omega)
  have hwl := whole_len (restT t)
  have c3 := fun cs W h1 h2 => trim_list (restT t) cs W (by omega) h1 h2
  obtain ⟨W, Q, P, N, hP⟩ := Parts.of t
  unfold CutV at c2
  rw [hP.w, hP.q, hP.p] at c2
  rw [hP.w, hP.q] at hwl
  rw [hP.n] at c1
  have c4 := fun W' => digits_calls W W' (by omega)
  have c5 := fun W' => digits_calls Q W' (by omega)
  have HP := Lib.hid hP
  have HB := Lib.hid (fun (h : bad t q = true) => ret_par HH.out (bad_form h))
  have HBe := Lib.hid (Parts.bad (p := q) hP)
  have C1 := Lib.hid c1
  have C2 := Lib.hid c2
  clear c1 c2 hP
  by_cases hw : digs W = true
  · match W, hw with
    | [b], hw =>
      have c4' := c4
      rw [hw] at c4'
      have C4 := Lib.hid c4'
      have hz0 : (decide (1 < [b].length) && [b].head? == some 48) = false := rfl
      clear c4'
      go_enter Tryz.func21, Tryz.ntmps21
      go_upto_region 7 with (first
      | (go_at_call 32; refine (C1.out _).mono ?_; rintro e w1 ⟨rfl, rfl⟩)
      | (go_at_call 33; refine (C2.out _).mono ?_; rintro e w2 ⟨rfl, b2⟩)
      | (go_at_call 34; refine (C4.out _).mono ?_; rintro e w3 ⟨rfl, b3⟩; have B3 := b2.trans (b3.mono b2.size); clear b2 b3))
      clear C1 C2 C4
      cases P with
      | true =>
        by_cases hq : digs Q = true
        · rw [hq] at c5
          have C5 := Lib.hid c5
          clear c4 c5
          by_cases hl : q < Q.length
          · have HR := Lib.hid (HB.out (by rw [HBe.out, hq]; simp [hl]))
            have hli : decide (q < Q.length) = true := decide_eq_true hl
            clear HB HBe HP c3 hl
            go_wp2_with (go_at_call 34; refine (C5.out _).mono ?_; rintro e w4 ⟨rfl, b4⟩; have B4 := B3.trans (b4.mono B3.size); clear b4)
            go_ret2
            exact ⟨HR.out, B4⟩
          · have hli : decide (q < Q.length) = false := decide_eq_false hl
            go_upto_region 9 with (go_at_call 34; refine (C5.out _).mono ?_; rintro e w4 ⟨rfl, b4⟩; have B4 := B3.trans (b4.mono B3.size); clear b4)
            cases N with
            | false =>
              obtain ⟨A, u, hgood⟩ := Parts.good (q := q) HP.out (by rw [HBe.out]; rw [hw, hz0, hq, hli]; rfl)
              have B6 := B4
              clear HB HBe HP
              go_upto_region 11 with fail
              have HG := Lib.hid hgood
              have hA := hgood.a
              have hlw := hwl
              have TL := Lib.hid (fun W' => Tryz.strings_TrimLeft_one ((⟨[b].toArray⟩ : ByteArray) ++ ⟨Q.toArray⟩ ++ ⟨(Lib.repeatL [48] (q - Q.length)).toArray⟩) 48 (by decide) W')
              rw [ba_app, ba_app, show (⟨([b] ++ Q ++ Lib.repeatL [48] (q - Q.length)).toArray⟩ : ByteArray).data.toList = [b] ++ Q ++ Lib.repeatL [48] (q - Q.length) by simp, hA] at TL
              have hrl0 : (Lib.repeatL [48] (q - Q.length)).length = q - Q.length := by rw [Lib.repeatL_length]; simp
              have hql : Q.length ≤ q := by omega
              skip
              have RP := Lib.hid (fun W' => rep_calls ((q : Int) - (Q.length : Int)) W' (by omega) (by omega))
              rw [show ((q : Int) - (Q.length : Int)).toNat = q - Q.length by omega] at RP
              obtain ⟨R, hR⟩ : ∃ R, R = Lib.repeatL [48] (q - Q.length) := ⟨_, rfl⟩
              rw [← hR] at TL RP hrl0
              clear hA hR hgood
              go_upto_region 12 with (first
                | (go_at_call 31; refine (RP.out _).mono ?_; rintro e w7 ⟨rfl, b7⟩; have B7 := B6.trans (b7.mono B6.size); clear b7)
                | (go_at_call 36; rw [ba_app, ba_app]; refine (TL.out _).mono ?_; rintro e w8 ⟨rfl, rfl⟩))
              by_cases h19 : 19 < A.length
              · have HR := Lib.hid (ret_par HH.out (HG.out.big h19))
                clear HG
                go_wp2_with fail
                go_ret2
                exact ⟨HR.out, B7⟩
              · by_cases h0 : A = []
                · have HR := Lib.hid (ret_par HH.out (HG.out.nil h0))
                  subst h0
                  clear HG
                  go_wp2_with fail
                  go_ret2
                  exact ⟨HR.out, B7⟩
                · have hA1 : A.length ≤ 19 := by omega
                  have PU := Lib.hid (fun W' => Tryz.strconv_ParseUint_10_at64_ok ⟨A.toArray⟩ (by rw [ba_size]; omega) u (by rw [show (⟨A.toArray⟩ : ByteArray).data.toList = A by simp]; exact HG.out.uint h0 hA1) W')
                  have hne : A.isEmpty = false := by cases A with | nil => exact absurd rfl h0 | cons b l => rfl
                  by_cases hM : 4611686018427387904 < u
                  · have HR := Lib.hid (ret_par HH.out (HG.out.over hM))
                    have hMi : decide ((4611686018427387904 : Int) < (u : Int)) = true := decide_eq_true (by omega)
                    clear HG hM
                    go_wp2_with (go_at_call 37; refine (PU.out _).mono ?_; rintro e w9 ⟨rfl, b9⟩; have B9 := uint_below B7 b9 B7.size; clear b9)
                    go_ret2
                    exact ⟨HR.out, B9⟩
                  · have HR := Lib.hid (ret_par HH.out (HG.out.fine (by omega)))
                    have hMi : (u : Int) ≤ 4611686018427387904 := by omega
                    clear HG hM
                    go_wp2_with (go_at_call 37; refine (PU.out _).mono ?_; rintro e w9 ⟨rfl, b9⟩; have B9 := uint_below B7 b9 B7.size; clear b9)
                    go_ret2
                    exact ⟨HR.out, B9⟩
            | true =>
              by_cases hz : Lib.trimS (restT t) [48, 46] = []
              · have HR := Lib.hid (HB.out (by rw [HBe.out]; have hv := (trim_zero (r := restT t) (by rw [HP.out.w]; exact (HP.out.all hw (fun _ => hq)).1) (by rw [HP.out.q]; exact (HP.out.all hw (fun _ => hq)).2)).1 hz; rw [HP.out.w, HP.out.q] at hv; rw [decide_eq_true hv]; simp))
                have c3' := fun W => c3 [48, 46] W (by decide) (by decide)
                rw [hz] at c3'
                have C3 := Lib.hid c3'
                clear HB HBe HP c3 c3' hz
                go_wp2_with (go_at_call 35; refine (C3.out _).mono ?_; rintro e w5 ⟨rfl, b5⟩; have B5 := B4.trans (b5.mono B4.size); clear b5)
                go_ret2
                exact ⟨HR.out, B5⟩
              · obtain ⟨A, u, hgood⟩ := Parts.good (q := q) HP.out (by rw [HBe.out]; have hv := fun hv => hz ((trim_zero (r := restT t) (by rw [HP.out.w]; exact (HP.out.all hw (fun _ => hq)).1) (by rw [HP.out.q]; exact (HP.out.all hw (fun _ => hq)).2)).2 hv); rw [HP.out.w, HP.out.q] at hv; rw [hw, hz0, hq, hli, decide_eq_false hv]; rfl)
                have c3' := fun W => c3 [48, 46] W (by decide) (by decide)
                obtain ⟨zt, hzt⟩ : ∃ zt, zt = Lib.trimS (restT t) [48, 46] := ⟨_, rfl⟩
                rw [← hzt] at c3' hz
                have hze : zt.isEmpty = false := by cases zt with | nil => exact absurd rfl hz | cons b l => rfl
                have C3 := Lib.hid c3'
                clear HB HBe HP c3 c3' hz hzt
                go_upto_region 11 with (go_at_call 35; refine (C3.out _).mono ?_; rintro e w5 ⟨rfl, b5⟩; have B6 := B4.trans (b5.mono B4.size); clear b5)
                have HG := Lib.hid hgood
                have hA := hgood.a
                have hlw := hwl
                have TL := Lib.hid (fun W' => Tryz.strings_TrimLeft_one ((⟨[b].toArray⟩ : ByteArray) ++ ⟨Q.toArray⟩ ++ ⟨(Lib.repeatL [48] (q - Q.length)).toArray⟩) 48 (by decide) W')
                rw [ba_app, ba_app, show (⟨([b] ++ Q ++ Lib.repeatL [48] (q - Q.length)).toArray⟩ : ByteArray).data.toList = [b] ++ Q ++ Lib.repeatL [48] (q - Q.length) by simp, hA] at TL
                have hrl0 : (Lib.repeatL [48] (q - Q.length)).length = q - Q.length := by rw [Lib.repeatL_length]; simp
                have hql : Q.length ≤ q := by omega
                skip
                have RP := Lib.hid (fun W' => rep_calls ((q : Int) - (Q.length : Int)) W' (by omega) (by omega))
                rw [show ((q : Int) - (Q.length : Int)).toNat = q - Q.length by omega] at RP
                obtain ⟨R, hR⟩ : ∃ R, R = Lib.repeatL [48] (q - Q.length) := ⟨_, rfl⟩
                rw [← hR] at TL RP hrl0
                clear hA hR hgood
                go_upto_region 12 with (first
                  | (go_at_call 31; refine (RP.out _).mono ?_; rintro e w7 ⟨rfl, b7⟩; have B7 := B6.trans (b7.mono B6.size); clear b7)
                  | (go_at_call 36; rw [ba_app, ba_app]; refine (TL.out _).mono ?_; rintro e w8 ⟨rfl, rfl⟩))
                by_cases h19 : 19 < A.length
                · have HR := Lib.hid (ret_par HH.out (HG.out.big h19))
                  clear HG
                  go_wp2_with fail
                  go_ret2
                  exact ⟨HR.out, B7⟩
                · by_cases h0 : A = []
                  · have HR := Lib.hid (ret_par HH.out (HG.out.nil h0))
                    subst h0
                    clear HG
                    go_wp2_with fail
                    go_ret2
                    exact ⟨HR.out, B7⟩
                  · have hA1 : A.length ≤ 19 := by omega
                    have PU := Lib.hid (fun W' => Tryz.strconv_ParseUint_10_at64_ok ⟨A.toArray⟩ (by rw [ba_size]; omega) u (by rw [show (⟨A.toArray⟩ : ByteArray).data.toList = A by simp]; exact HG.out.uint h0 hA1) W')
                    have hne : A.isEmpty = false := by cases A with | nil => exact absurd rfl h0 | cons b l => rfl
                    by_cases hM : 4611686018427387904 < u
                    · have HR := Lib.hid (ret_par HH.out (HG.out.over hM))
                      have hMi : decide ((4611686018427387904 : Int) < (u : Int)) = true := decide_eq_true (by omega)
                      clear HG hM
                      go_wp2_with (go_at_call 37; refine (PU.out _).mono ?_; rintro e w9 ⟨rfl, b9⟩; have B9 := uint_below B7 b9 B7.size; clear b9)
                      go_ret2
                      exact ⟨HR.out, B9⟩
                    · have HR := Lib.hid (ret_par HH.out (HG.out.fine (by omega)))
                      have hMi : (u : Int) ≤ 4611686018427387904 := by omega
                      clear HG hM
                      go_wp2_with (go_at_call 37; refine (PU.out _).mono ?_; rintro e w9 ⟨rfl, b9⟩; have B9 := uint_below B7 b9 B7.size; clear b9)
                      go_ret2
                      exact ⟨HR.out, B9⟩
        · have hq' : digs Q = false := by simpa using hq
          rw [hq'] at c5
          have C5 := Lib.hid c5
          have HR := Lib.hid (HB.out (by rw [HBe.out, hq']; simp))
          clear hq c3 c4 c5 hq' HB HBe HP
          go_wp2_with (go_at_call 34; refine (C5.out _).mono ?_; rintro e w4 ⟨rfl, b4⟩; have B4 := B3.trans (b4.mono B3.size); clear b4)
          go_ret2
          exact ⟨HR.out, B4⟩
      | false =>
        have hQ : Q = [] := by
          rcases split_eq (restT t) with ⟨h2, _⟩ | ⟨_, _, h2⟩
          · rw [HP.out.p] at h2; cases h2
          · rw [← HP.out.q, h2]
        have hl : ¬ q < Q.length := by rw [hQ]; simp
        have HQ := Lib.hid hQ
        clear hQ
        go_upto_region 9 with fail
        have B4 := B3
        cases N with
        | false =>
          obtain ⟨A, u, hgood⟩ := Parts.good (q := q) HP.out (by rw [HBe.out]; rw [hw, hz0]; rfl)
          have B6 := B4
          clear HB HBe HP
          go_upto_region 11 with fail
          have HG := Lib.hid hgood
          have hA := hgood.a
          have hlw := hwl
          have TL := Lib.hid (fun W' => Tryz.strings_TrimLeft_one ((⟨[b].toArray⟩ : ByteArray) ++ ⟨Q.toArray⟩ ++ ⟨(Lib.repeatL [48] (q - Q.length)).toArray⟩) 48 (by decide) W')
          rw [ba_app, ba_app, show (⟨([b] ++ Q ++ Lib.repeatL [48] (q - Q.length)).toArray⟩ : ByteArray).data.toList = [b] ++ Q ++ Lib.repeatL [48] (q - Q.length) by simp, hA] at TL
          have hrl0 : (Lib.repeatL [48] (q - Q.length)).length = q - Q.length := by rw [Lib.repeatL_length]; simp
          have hql : Q.length ≤ q := by omega
          skip
          have RP := Lib.hid (fun W' => rep_calls ((q : Int) - (Q.length : Int)) W' (by omega) (by omega))
          rw [show ((q : Int) - (Q.length : Int)).toNat = q - Q.length by omega] at RP
          obtain ⟨R, hR⟩ : ∃ R, R = Lib.repeatL [48] (q - Q.length) := ⟨_, rfl⟩
          rw [← hR] at TL RP hrl0
          clear hA hR hgood
          go_upto_region 12 with (first
            | (go_at_call 31; refine (RP.out _).mono ?_; rintro e w7 ⟨rfl, b7⟩; have B7 := B6.trans (b7.mono B6.size); clear b7)
            | (go_at_call 36; rw [ba_app, ba_app]; refine (TL.out _).mono ?_; rintro e w8 ⟨rfl, rfl⟩))
          by_cases h19 : 19 < A.length
          · have HR := Lib.hid (ret_par HH.out (HG.out.big h19))
            clear HG
            go_wp2_with fail
            go_ret2
            exact ⟨HR.out, B7⟩
          · by_cases h0 : A = []
            · have HR := Lib.hid (ret_par HH.out (HG.out.nil h0))
              subst h0
              clear HG
              go_wp2_with fail
              go_ret2
              exact ⟨HR.out, B7⟩
            · have hA1 : A.length ≤ 19 := by omega
              have PU := Lib.hid (fun W' => Tryz.strconv_ParseUint_10_at64_ok ⟨A.toArray⟩ (by rw [ba_size]; omega) u (by rw [show (⟨A.toArray⟩ : ByteArray).data.toList = A by simp]; exact HG.out.uint h0 hA1) W')
              have hne : A.isEmpty = false := by cases A with | nil => exact absurd rfl h0 | cons b l => rfl
              by_cases hM : 4611686018427387904 < u
              · have HR := Lib.hid (ret_par HH.out (HG.out.over hM))
                have hMi : decide ((4611686018427387904 : Int) < (u : Int)) = true := decide_eq_true (by omega)
                clear HG hM
                go_wp2_with (go_at_call 37; refine (PU.out _).mono ?_; rintro e w9 ⟨rfl, b9⟩; have B9 := uint_below B7 b9 B7.size; clear b9)
                go_ret2
                exact ⟨HR.out, B9⟩
              · have HR := Lib.hid (ret_par HH.out (HG.out.fine (by omega)))
                have hMi : (u : Int) ≤ 4611686018427387904 := by omega
                clear HG hM
                go_wp2_with (go_at_call 37; refine (PU.out _).mono ?_; rintro e w9 ⟨rfl, b9⟩; have B9 := uint_below B7 b9 B7.size; clear b9)
                go_ret2
                exact ⟨HR.out, B9⟩
        | true =>
          by_cases hz : Lib.trimS (restT t) [48, 46] = []
          · have HR := Lib.hid (HB.out (by rw [HBe.out]; have hv := (trim_zero (r := restT t) (by rw [HP.out.w]; exact (HP.out.all hw (fun h => by cases h)).1) (by rw [HP.out.q]; exact (HP.out.all hw (fun h => by cases h)).2)).1 hz; rw [HP.out.w, HP.out.q] at hv; rw [decide_eq_true hv]; simp))
            have c3' := fun W => c3 [48, 46] W (by decide) (by decide)
            rw [hz] at c3'
            have C3 := Lib.hid c3'
            clear HB HBe HP c3 c3' hz
            go_wp2_with (go_at_call 35; refine (C3.out _).mono ?_; rintro e w5 ⟨rfl, b5⟩; have B5 := B4.trans (b5.mono B4.size); clear b5)
            go_ret2
            exact ⟨HR.out, B5⟩
          · obtain ⟨A, u, hgood⟩ := Parts.good (q := q) HP.out (by rw [HBe.out]; have hv := fun hv => hz ((trim_zero (r := restT t) (by rw [HP.out.w]; exact (HP.out.all hw (fun h => by cases h)).1) (by rw [HP.out.q]; exact (HP.out.all hw (fun h => by cases h)).2)).2 hv); rw [HP.out.w, HP.out.q] at hv; rw [hw, hz0, decide_eq_false hv]; rfl)
            have c3' := fun W => c3 [48, 46] W (by decide) (by decide)
            obtain ⟨zt, hzt⟩ : ∃ zt, zt = Lib.trimS (restT t) [48, 46] := ⟨_, rfl⟩
            rw [← hzt] at c3' hz
            have hze : zt.isEmpty = false := by cases zt with | nil => exact absurd rfl hz | cons b l => rfl
            have C3 := Lib.hid c3'
            clear HB HBe HP c3 c3' hz hzt
            go_upto_region 11 with (go_at_call 35; refine (C3.out _).mono ?_; rintro e w5 ⟨rfl, b5⟩; have B6 := B4.trans (b5.mono B4.size); clear b5)
            have HG := Lib.hid hgood
            have hA := hgood.a
            have hlw := hwl
            have TL := Lib.hid (fun W' => Tryz.strings_TrimLeft_one ((⟨[b].toArray⟩ : ByteArray) ++ ⟨Q.toArray⟩ ++ ⟨(Lib.repeatL [48] (q - Q.length)).toArray⟩) 48 (by decide) W')
            rw [ba_app, ba_app, show (⟨([b] ++ Q ++ Lib.repeatL [48] (q - Q.length)).toArray⟩ : ByteArray).data.toList = [b] ++ Q ++ Lib.repeatL [48] (q - Q.length) by simp, hA] at TL
            have hrl0 : (Lib.repeatL [48] (q - Q.length)).length = q - Q.length := by rw [Lib.repeatL_length]; simp
            have hql : Q.length ≤ q := by omega
            skip
            have RP := Lib.hid (fun W' => rep_calls ((q : Int) - (Q.length : Int)) W' (by omega) (by omega))
            rw [show ((q : Int) - (Q.length : Int)).toNat = q - Q.length by omega] at RP
            obtain ⟨R, hR⟩ : ∃ R, R = Lib.repeatL [48] (q - Q.length) := ⟨_, rfl⟩
            rw [← hR] at TL RP hrl0
            clear hA hR hgood
            go_upto_region 12 with (first
              | (go_at_call 31; refine (RP.out _).mono ?_; rintro e w7 ⟨rfl, b7⟩; have B7 := B6.trans (b7.mono B6.size); clear b7)
              | (go_at_call 36; rw [ba_app, ba_app]; refine (TL.out _).mono ?_; rintro e w8 ⟨rfl, rfl⟩))
            by_cases h19 : 19 < A.length
            · have HR := Lib.hid (ret_par HH.out (HG.out.big h19))
              clear HG
              go_wp2_with fail
              go_ret2
              exact ⟨HR.out, B7⟩
            · by_cases h0 : A = []
              · have HR := Lib.hid (ret_par HH.out (HG.out.nil h0))
                subst h0
                clear HG
                go_wp2_with fail
                go_ret2
                exact ⟨HR.out, B7⟩
              · have hA1 : A.length ≤ 19 := by omega
                have PU := Lib.hid (fun W' => Tryz.strconv_ParseUint_10_at64_ok ⟨A.toArray⟩ (by rw [ba_size]; omega) u (by rw [show (⟨A.toArray⟩ : ByteArray).data.toList = A by simp]; exact HG.out.uint h0 hA1) W')
                have hne : A.isEmpty = false := by cases A with | nil => exact absurd rfl h0 | cons b l => rfl
                by_cases hM : 4611686018427387904 < u
                · have HR := Lib.hid (ret_par HH.out (HG.out.over hM))
                  have hMi : decide ((4611686018427387904 : Int) < (u : Int)) = true := decide_eq_true (by omega)
                  clear HG hM
                  go_wp2_with (go_at_call 37; refine (PU.out _).mono ?_; rintro e w9 ⟨rfl, b9⟩; have B9 := uint_below B7 b9 B7.size; clear b9)
                  go_ret2
                  exact ⟨HR.out, B9⟩
                · have HR := Lib.hid (ret_par HH.out (HG.out.fine (by omega)))
                  have hMi : (u : Int) ≤ 4611686018427387904 := by omega
                  clear HG hM
                  go_wp2_with (go_at_call 37; refine (PU.out _).mono ?_; rintro e w9 ⟨rfl, b9⟩; have B9 := uint_below B7 b9 B7.size; clear b9)
                  go_ret2
                  exact ⟨HR.out, B9⟩
    | b :: c :: m, hw =>
      have c4' := c4
      rw [hw] at c4'
      have C4 := Lib.hid c4'
      clear c4'
      have hlm : decide ((1 : Int) < ((m.length : Int) + 1 + 1)) = true := decide_eq_true (by omega)
      by_cases hb : b = 48
      · subst hb
        have HR := Lib.hid (HB.out (by rw [HBe.out]; simp))
        have hbi : ((((⟨((48 : UInt8) :: c :: m).toArray⟩ : ByteArray)[0]'(by show 0 < m.length + 1 + 1; omega)).toNat : Int) == 48) = true := rfl
        clear c3 c4 c5 HB HBe HP
        go_enter Tryz.func21, Tryz.ntmps21
        go_wp2_with (first
      | (go_at_call 32; refine (C1.out _).mono ?_; rintro e w1 ⟨rfl, rfl⟩)
      | (go_at_call 33; refine (C2.out _).mono ?_; rintro e w2 ⟨rfl, b2⟩)
      | (go_at_call 34; refine (C4.out _).mono ?_; rintro e w3 ⟨rfl, b3⟩; have B3 := b2.trans (b3.mono b2.size); clear b2 b3))
        go_ret2
        exact ⟨HR.out, B3⟩
      · have hz0 : (decide (1 < (b :: c :: m).length) && (b :: c :: m).head? == some 48) = false := by simp [hb]
        have hbi : ((((⟨(b :: c :: m).toArray⟩ : ByteArray)[0]'(by show 0 < m.length + 1 + 1; omega)).toNat : Int) == 48) = false := by
          show ((b.toNat : Int) == 48) = false
          simp
          intro e
          exact hb (UInt8.toNat_inj.1 (by have : (48 : UInt8).toNat = 48 := rfl; omega))
        go_enter Tryz.func21, Tryz.ntmps21
        go_upto_region 7 with (first
      | (go_at_call 32; refine (C1.out _).mono ?_; rintro e w1 ⟨rfl, rfl⟩)
      | (go_at_call 33; refine (C2.out _).mono ?_; rintro e w2 ⟨rfl, b2⟩)
      | (go_at_call 34; refine (C4.out _).mono ?_; rintro e w3 ⟨rfl, b3⟩; have B3 := b2.trans (b3.mono b2.size); clear b2 b3))
        clear C1 C2 C4
        cases P with
        | true =>
          by_cases hq : digs Q = true
          · rw [hq] at c5
            have C5 := Lib.hid c5
            clear c4 c5
            by_cases hl : q < Q.length
            · have HR := Lib.hid (HB.out (by rw [HBe.out, hq]; simp [hl]))
              have hli : decide (q < Q.length) = true := decide_eq_true hl
              clear HB HBe HP c3 hl
              go_wp2_with (go_at_call 34; refine (C5.out _).mono ?_; rintro e w4 ⟨rfl, b4⟩; have B4 := B3.trans (b4.mono B3.size); clear b4)
              go_ret2
              exact ⟨HR.out, B4⟩
            · have hli : decide (q < Q.length) = false := decide_eq_false hl
              go_upto_region 9 with (go_at_call 34; refine (C5.out _).mono ?_; rintro e w4 ⟨rfl, b4⟩; have B4 := B3.trans (b4.mono B3.size); clear b4)
              cases N with
              | false =>
                obtain ⟨A, u, hgood⟩ := Parts.good (q := q) HP.out (by rw [HBe.out]; rw [hw, hz0, hq, hli]; rfl)
                have B6 := B4
                clear HB HBe HP
                go_upto_region 11 with fail
                have HG := Lib.hid hgood
                have hA := hgood.a
                have hlw := hwl
                have TL := Lib.hid (fun W' => Tryz.strings_TrimLeft_one ((⟨(b :: c :: m).toArray⟩ : ByteArray) ++ ⟨Q.toArray⟩ ++ ⟨(Lib.repeatL [48] (q - Q.length)).toArray⟩) 48 (by decide) W')
                rw [ba_app, ba_app, show (⟨((b :: c :: m) ++ Q ++ Lib.repeatL [48] (q - Q.length)).toArray⟩ : ByteArray).data.toList = (b :: c :: m) ++ Q ++ Lib.repeatL [48] (q - Q.length) by simp, hA] at TL
                have hrl0 : (Lib.repeatL [48] (q - Q.length)).length = q - Q.length := by rw [Lib.repeatL_length]; simp
                have hql : Q.length ≤ q := by omega
                have hs1 : ¬ 9223372036854775807 < m.length + 1 + 1 + Q.length := by simp at hlw; omega
                have hs2 : ¬ 9223372036854775807 < m.length + 1 + 1 + Q.length + (q - Q.length) := by simp at hlw; omega
                have RP := Lib.hid (fun W' => rep_calls ((q : Int) - (Q.length : Int)) W' (by omega) (by omega))
                rw [show ((q : Int) - (Q.length : Int)).toNat = q - Q.length by omega] at RP
                obtain ⟨R, hR⟩ : ∃ R, R = Lib.repeatL [48] (q - Q.length) := ⟨_, rfl⟩
                rw [← hR] at TL RP hrl0
                clear hA hR hgood
                go_upto_region 12 with (first
                  | (go_at_call 31; refine (RP.out _).mono ?_; rintro e w7 ⟨rfl, b7⟩; have B7 := B6.trans (b7.mono B6.size); clear b7)
                  | (go_at_call 36; rw [ba_app, ba_app]; refine (TL.out _).mono ?_; rintro e w8 ⟨rfl, rfl⟩))
                by_cases h19 : 19 < A.length
                · have HR := Lib.hid (ret_par HH.out (HG.out.big h19))
                  clear HG
                  go_wp2_with fail
                  go_ret2
                  exact ⟨HR.out, B7⟩
                · by_cases h0 : A = []
                  · have HR := Lib.hid (ret_par HH.out (HG.out.nil h0))
                    subst h0
                    clear HG
                    go_wp2_with fail
                    go_ret2
                    exact ⟨HR.out, B7⟩
                  · have hA1 : A.length ≤ 19 := by omega
                    have PU := Lib.hid (fun W' => Tryz.strconv_ParseUint_10_at64_ok ⟨A.toArray⟩ (by rw [ba_size]; omega) u (by rw [show (⟨A.toArray⟩ : ByteArray).data.toList = A by simp]; exact HG.out.uint h0 hA1) W')
                    have hne : A.isEmpty = false := by cases A with | nil => exact absurd rfl h0 | cons b l => rfl
                    by_cases hM : 4611686018427387904 < u
                    · have HR := Lib.hid (ret_par HH.out (HG.out.over hM))
                      have hMi : decide ((4611686018427387904 : Int) < (u : Int)) = true := decide_eq_true (by omega)
                      clear HG hM
                      go_wp2_with (go_at_call 37; refine (PU.out _).mono ?_; rintro e w9 ⟨rfl, b9⟩; have B9 := uint_below B7 b9 B7.size; clear b9)
                      go_ret2
                      exact ⟨HR.out, B9⟩
                    · have HR := Lib.hid (ret_par HH.out (HG.out.fine (by omega)))
                      have hMi : (u : Int) ≤ 4611686018427387904 := by omega
                      clear HG hM
                      go_wp2_with (go_at_call 37; refine (PU.out _).mono ?_; rintro e w9 ⟨rfl, b9⟩; have B9 := uint_below B7 b9 B7.size; clear b9)
                      go_ret2
                      exact ⟨HR.out, B9⟩
              | true =>
                by_cases hz : Lib.trimS (restT t) [48, 46] = []
                · have HR := Lib.hid (HB.out (by rw [HBe.out]; have hv := (trim_zero (r := restT t) (by rw [HP.out.w]; exact (HP.out.all hw (fun _ => hq)).1) (by rw [HP.out.q]; exact (HP.out.all hw (fun _ => hq)).2)).1 hz; rw [HP.out.w, HP.out.q] at hv; rw [decide_eq_true hv]; simp))
                  have c3' := fun W => c3 [48, 46] W (by decide) (by decide)
                  rw [hz] at c3'
                  have C3 := Lib.hid c3'
                  clear HB HBe HP c3 c3' hz
                  go_wp2_with (go_at_call 35; refine (C3.out _).mono ?_; rintro e w5 ⟨rfl, b5⟩; have B5 := B4.trans (b5.mono B4.size); clear b5)
                  go_ret2
                  exact ⟨HR.out, B5⟩
                · obtain ⟨A, u, hgood⟩ := Parts.good (q := q) HP.out (by rw [HBe.out]; have hv := fun hv => hz ((trim_zero (r := restT t) (by rw [HP.out.w]; exact (HP.out.all hw (fun _ => hq)).1) (by rw [HP.out.q]; exact (HP.out.all hw (fun _ => hq)).2)).2 hv); rw [HP.out.w, HP.out.q] at hv; rw [hw, hz0, hq, hli, decide_eq_false hv]; rfl)
                  have c3' := fun W => c3 [48, 46] W (by decide) (by decide)
                  obtain ⟨zt, hzt⟩ : ∃ zt, zt = Lib.trimS (restT t) [48, 46] := ⟨_, rfl⟩
                  rw [← hzt] at c3' hz
                  have hze : zt.isEmpty = false := by cases zt with | nil => exact absurd rfl hz | cons b l => rfl
                  have C3 := Lib.hid c3'
                  clear HB HBe HP c3 c3' hz hzt
                  go_upto_region 11 with (go_at_call 35; refine (C3.out _).mono ?_; rintro e w5 ⟨rfl, b5⟩; have B6 := B4.trans (b5.mono B4.size); clear b5)
                  have HG := Lib.hid hgood
                  have hA := hgood.a
                  have hlw := hwl
                  have TL := Lib.hid (fun W' => Tryz.strings_TrimLeft_one ((⟨(b :: c :: m).toArray⟩ : ByteArray) ++ ⟨Q.toArray⟩ ++ ⟨(Lib.repeatL [48] (q - Q.length)).toArray⟩) 48 (by decide) W')
                  rw [ba_app, ba_app, show (⟨((b :: c :: m) ++ Q ++ Lib.repeatL [48] (q - Q.length)).toArray⟩ : ByteArray).data.toList = (b :: c :: m) ++ Q ++ Lib.repeatL [48] (q - Q.length) by simp, hA] at TL
                  have hrl0 : (Lib.repeatL [48] (q - Q.length)).length = q - Q.length := by rw [Lib.repeatL_length]; simp
                  have hql : Q.length ≤ q := by omega
                  have hs1 : ¬ 9223372036854775807 < m.length + 1 + 1 + Q.length := by simp at hlw; omega
                  have hs2 : ¬ 9223372036854775807 < m.length + 1 + 1 + Q.length + (q - Q.length) := by simp at hlw; omega
                  have RP := Lib.hid (fun W' => rep_calls ((q : Int) - (Q.length : Int)) W' (by omega) (by omega))
                  rw [show ((q : Int) - (Q.length : Int)).toNat = q - Q.length by omega] at RP
                  obtain ⟨R, hR⟩ : ∃ R, R = Lib.repeatL [48] (q - Q.length) := ⟨_, rfl⟩
                  rw [← hR] at TL RP hrl0
                  clear hA hR hgood
                  go_upto_region 12 with (first
                    | (go_at_call 31; refine (RP.out _).mono ?_; rintro e w7 ⟨rfl, b7⟩; have B7 := B6.trans (b7.mono B6.size); clear b7)
                    | (go_at_call 36; rw [ba_app, ba_app]; refine (TL.out _).mono ?_; rintro e w8 ⟨rfl, rfl⟩))
                  by_cases h19 : 19 < A.length
                  · have HR := Lib.hid (ret_par HH.out (HG.out.big h19))
                    clear HG
                    go_wp2_with fail
                    go_ret2
                    exact ⟨HR.out, B7⟩
                  · by_cases h0 : A = []
                    · have HR := Lib.hid (ret_par HH.out (HG.out.nil h0))
                      subst h0
                      clear HG
                      go_wp2_with fail
                      go_ret2
                      exact ⟨HR.out, B7⟩
                    · have hA1 : A.length ≤ 19 := by omega
                      have PU := Lib.hid (fun W' => Tryz.strconv_ParseUint_10_at64_ok ⟨A.toArray⟩ (by rw [ba_size]; omega) u (by rw [show (⟨A.toArray⟩ : ByteArray).data.toList = A by simp]; exact HG.out.uint h0 hA1) W')
                      have hne : A.isEmpty = false := by cases A with | nil => exact absurd rfl h0 | cons b l => rfl
                      by_cases hM : 4611686018427387904 < u
                      · have HR := Lib.hid (ret_par HH.out (HG.out.over hM))
                        have hMi : decide ((4611686018427387904 : Int) < (u : Int)) = true := decide_eq_true (by omega)
                        clear HG hM
                        go_wp2_with (go_at_call 37; refine (PU.out _).mono ?_; rintro e w9 ⟨rfl, b9⟩; have B9 := uint_below B7 b9 B7.size; clear b9)
                        go_ret2
                        exact ⟨HR.out, B9⟩
                      · have HR := Lib.hid (ret_par HH.out (HG.out.fine (by omega)))
                        have hMi : (u : Int) ≤ 4611686018427387904 := by omega
                        clear HG hM
                        go_wp2_with (go_at_call 37; refine (PU.out _).mono ?_; rintro e w9 ⟨rfl, b9⟩; have B9 := uint_below B7 b9 B7.size; clear b9)
                        go_ret2
                        exact ⟨HR.out, B9⟩
          · have hq' : digs Q = false := by simpa using hq
            rw [hq'] at c5
            have C5 := Lib.hid c5
            have HR := Lib.hid (HB.out (by rw [HBe.out, hq']; simp))
            clear hq c3 c4 c5 hq' HB HBe HP
            go_wp2_with (go_at_call 34; refine (C5.out _).mono ?_; rintro e w4 ⟨rfl, b4⟩; have B4 := B3.trans (b4.mono B3.size); clear b4)
            go_ret2
            exact ⟨HR.out, B4⟩
        | false =>
          have hQ : Q = [] := by
            rcases split_eq (restT t) with ⟨h2, _⟩ | ⟨_, _, h2⟩
            · rw [HP.out.p] at h2; cases h2
            · rw [← HP.out.q, h2]
          have hl : ¬ q < Q.length := by rw [hQ]; simp
          have HQ := Lib.hid hQ
          clear hQ
          go_upto_region 9 with fail
          have B4 := B3
          cases N with
          | false =>
            obtain ⟨A, u, hgood⟩ := Parts.good (q := q) HP.out (by rw [HBe.out]; rw [hw, hz0]; rfl)
            have B6 := B4
            clear HB HBe HP
            go_upto_region 11 with fail
            have HG := Lib.hid hgood
            have hA := hgood.a
            have hlw := hwl
            have TL := Lib.hid (fun W' => Tryz.strings_TrimLeft_one ((⟨(b :: c :: m).toArray⟩ : ByteArray) ++ ⟨Q.toArray⟩ ++ ⟨(Lib.repeatL [48] (q - Q.length)).toArray⟩) 48 (by decide) W')
            rw [ba_app, ba_app, show (⟨((b :: c :: m) ++ Q ++ Lib.repeatL [48] (q - Q.length)).toArray⟩ : ByteArray).data.toList = (b :: c :: m) ++ Q ++ Lib.repeatL [48] (q - Q.length) by simp, hA] at TL
            have hrl0 : (Lib.repeatL [48] (q - Q.length)).length = q - Q.length := by rw [Lib.repeatL_length]; simp
            have hql : Q.length ≤ q := by omega
            have hs1 : ¬ 9223372036854775807 < m.length + 1 + 1 + Q.length := by simp at hlw; omega
            have hs2 : ¬ 9223372036854775807 < m.length + 1 + 1 + Q.length + (q - Q.length) := by simp at hlw; omega
            have RP := Lib.hid (fun W' => rep_calls ((q : Int) - (Q.length : Int)) W' (by omega) (by omega))
            rw [show ((q : Int) - (Q.length : Int)).toNat = q - Q.length by omega] at RP
            obtain ⟨R, hR⟩ : ∃ R, R = Lib.repeatL [48] (q - Q.length) := ⟨_, rfl⟩
            rw [← hR] at TL RP hrl0
            clear hA hR hgood
            go_upto_region 12 with (first
              | (go_at_call 31; refine (RP.out _).mono ?_; rintro e w7 ⟨rfl, b7⟩; have B7 := B6.trans (b7.mono B6.size); clear b7)
              | (go_at_call 36; rw [ba_app, ba_app]; refine (TL.out _).mono ?_; rintro e w8 ⟨rfl, rfl⟩))
            by_cases h19 : 19 < A.length
            · have HR := Lib.hid (ret_par HH.out (HG.out.big h19))
              clear HG
              go_wp2_with fail
              go_ret2
              exact ⟨HR.out, B7⟩
            · by_cases h0 : A = []
              · have HR := Lib.hid (ret_par HH.out (HG.out.nil h0))
                subst h0
                clear HG
                go_wp2_with fail
                go_ret2
                exact ⟨HR.out, B7⟩
              · have hA1 : A.length ≤ 19 := by omega
                have PU := Lib.hid (fun W' => Tryz.strconv_ParseUint_10_at64_ok ⟨A.toArray⟩ (by rw [ba_size]; omega) u (by rw [show (⟨A.toArray⟩ : ByteArray).data.toList = A by simp]; exact HG.out.uint h0 hA1) W')
                have hne : A.isEmpty = false := by cases A with | nil => exact absurd rfl h0 | cons b l => rfl
                by_cases hM : 4611686018427387904 < u
                · have HR := Lib.hid (ret_par HH.out (HG.out.over hM))
                  have hMi : decide ((4611686018427387904 : Int) < (u : Int)) = true := decide_eq_true (by omega)
                  clear HG hM
                  go_wp2_with (go_at_call 37; refine (PU.out _).mono ?_; rintro e w9 ⟨rfl, b9⟩; have B9 := uint_below B7 b9 B7.size; clear b9)
                  go_ret2
                  exact ⟨HR.out, B9⟩
                · have HR := Lib.hid (ret_par HH.out (HG.out.fine (by omega)))
                  have hMi : (u : Int) ≤ 4611686018427387904 := by omega
                  clear HG hM
                  go_wp2_with (go_at_call 37; refine (PU.out _).mono ?_; rintro e w9 ⟨rfl, b9⟩; have B9 := uint_below B7 b9 B7.size; clear b9)
                  go_ret2
                  exact ⟨HR.out, B9⟩
          | true =>
            by_cases hz : Lib.trimS (restT t) [48, 46] = []
            · have HR := Lib.hid (HB.out (by rw [HBe.out]; have hv := (trim_zero (r := restT t) (by rw [HP.out.w]; exact (HP.out.all hw (fun h => by cases h)).1) (by rw [HP.out.q]; exact (HP.out.all hw (fun h => by cases h)).2)).1 hz; rw [HP.out.w, HP.out.q] at hv; rw [decide_eq_true hv]; simp))
              have c3' := fun W => c3 [48, 46] W (by decide) (by decide)
              rw [hz] at c3'
              have C3 := Lib.hid c3'
              clear HB HBe HP c3 c3' hz
              go_wp2_with (go_at_call 35; refine (C3.out _).mono ?_; rintro e w5 ⟨rfl, b5⟩; have B5 := B4.trans (b5.mono B4.size); clear b5)
              go_ret2
              exact ⟨HR.out, B5⟩
            · obtain ⟨A, u, hgood⟩ := Parts.good (q := q) HP.out (by rw [HBe.out]; have hv := fun hv => hz ((trim_zero (r := restT t) (by rw [HP.out.w]; exact (HP.out.all hw (fun h => by cases h)).1) (by rw [HP.out.q]; exact (HP.out.all hw (fun h => by cases h)).2)).2 hv); rw [HP.out.w, HP.out.q] at hv; rw [hw, hz0, decide_eq_false hv]; rfl)
              have c3' := fun W => c3 [48, 46] W (by decide) (by decide)
              obtain ⟨zt, hzt⟩ : ∃ zt, zt = Lib.trimS (restT t) [48, 46] := ⟨_, rfl⟩
              rw [← hzt] at c3' hz
              have hze : zt.isEmpty = false := by cases zt with | nil => exact absurd rfl hz | cons b l => rfl
              have C3 := Lib.hid c3'
              clear HB HBe HP c3 c3' hz hzt
              go_upto_region 11 with (go_at_call 35; refine (C3.out _).mono ?_; rintro e w5 ⟨rfl, b5⟩; have B6 := B4.trans (b5.mono B4.size); clear b5)
              have HG := Lib.hid hgood
              have hA := hgood.a
              have hlw := hwl
              have TL := Lib.hid (fun W' => Tryz.strings_TrimLeft_one ((⟨(b :: c :: m).toArray⟩ : ByteArray) ++ ⟨Q.toArray⟩ ++ ⟨(Lib.repeatL [48] (q - Q.length)).toArray⟩) 48 (by decide) W')
              rw [ba_app, ba_app, show (⟨((b :: c :: m) ++ Q ++ Lib.repeatL [48] (q - Q.length)).toArray⟩ : ByteArray).data.toList = (b :: c :: m) ++ Q ++ Lib.repeatL [48] (q - Q.length) by simp, hA] at TL
              have hrl0 : (Lib.repeatL [48] (q - Q.length)).length = q - Q.length := by rw [Lib.repeatL_length]; simp
              have hql : Q.length ≤ q := by omega
              have hs1 : ¬ 9223372036854775807 < m.length + 1 + 1 + Q.length := by simp at hlw; omega
              have hs2 : ¬ 9223372036854775807 < m.length + 1 + 1 + Q.length + (q - Q.length) := by simp at hlw; omega
              have RP := Lib.hid (fun W' => rep_calls ((q : Int) - (Q.length : Int)) W' (by omega) (by omega))
              rw [show ((q : Int) - (Q.length : Int)).toNat = q - Q.length by omega] at RP
              obtain ⟨R, hR⟩ : ∃ R, R = Lib.repeatL [48] (q - Q.length) := ⟨_, rfl⟩
              rw [← hR] at TL RP hrl0
              clear hA hR hgood
              go_upto_region 12 with (first
                | (go_at_call 31; refine (RP.out _).mono ?_; rintro e w7 ⟨rfl, b7⟩; have B7 := B6.trans (b7.mono B6.size); clear b7)
                | (go_at_call 36; rw [ba_app, ba_app]; refine (TL.out _).mono ?_; rintro e w8 ⟨rfl, rfl⟩))
              by_cases h19 : 19 < A.length
              · have HR := Lib.hid (ret_par HH.out (HG.out.big h19))
                clear HG
                go_wp2_with fail
                go_ret2
                exact ⟨HR.out, B7⟩
              · by_cases h0 : A = []
                · have HR := Lib.hid (ret_par HH.out (HG.out.nil h0))
                  subst h0
                  clear HG
                  go_wp2_with fail
                  go_ret2
                  exact ⟨HR.out, B7⟩
                · have hA1 : A.length ≤ 19 := by omega
                  have PU := Lib.hid (fun W' => Tryz.strconv_ParseUint_10_at64_ok ⟨A.toArray⟩ (by rw [ba_size]; omega) u (by rw [show (⟨A.toArray⟩ : ByteArray).data.toList = A by simp]; exact HG.out.uint h0 hA1) W')
                  have hne : A.isEmpty = false := by cases A with | nil => exact absurd rfl h0 | cons b l => rfl
                  by_cases hM : 4611686018427387904 < u
                  · have HR := Lib.hid (ret_par HH.out (HG.out.over hM))
                    have hMi : decide ((4611686018427387904 : Int) < (u : Int)) = true := decide_eq_true (by omega)
                    clear HG hM
                    go_wp2_with (go_at_call 37; refine (PU.out _).mono ?_; rintro e w9 ⟨rfl, b9⟩; have B9 := uint_below B7 b9 B7.size; clear b9)
                    go_ret2
                    exact ⟨HR.out, B9⟩
                  · have HR := Lib.hid (ret_par HH.out (HG.out.fine (by omega)))
                    have hMi : (u : Int) ≤ 4611686018427387904 := by omega
                    clear HG hM
                    go_wp2_with (go_at_call 37; refine (PU.out _).mono ?_; rintro e w9 ⟨rfl, b9⟩; have B9 := uint_below B7 b9 B7.size; clear b9)
                    go_ret2
                    exact ⟨HR.out, B9⟩
  · have hw' : digs W = false := by simpa using hw
    rw [hw'] at c4
    have C4 := Lib.hid c4
    have HR := Lib.hid (HB.out (by rw [HBe.out, hw']; rfl))
    clear hw c3 c4 c5 hw' HB HBe HP
    go_enter Tryz.func21, Tryz.ntmps21
    go_wp2_with (first
      | (go_at_call 32; refine (C1.out _).mono ?_; rintro e w1 ⟨rfl, rfl⟩)
      | (go_at_call 33; refine (C2.out _).mono ?_; rintro e w2 ⟨rfl, b2⟩)
      | (go_at_call 34; refine (C4.out _).mono ?_; rintro e w3 ⟨rfl, b3⟩))
    go_ret2
    exact ⟨HR.out, b2.trans (b3.mono b2.size)⟩
end Go.Proofs.YtbpndiegbfpigaaGreatDoor.DecW
