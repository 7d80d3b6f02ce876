/- The walk of the document's Parse. -/
import Derived.Test.YtbpndiegbfpigaaDoorDecParse
namespace Go.Proofs.YtbpndiegbfpigaaDoor.DecW
open Go.RowKit Go.Proofs.YtbpndiegbfpigaaDoor.Bas Go.Proofs.YtbpndiegbfpigaaDoor.DecM Go.Proofs.YtbpndiegbfpigaaDoor.FixpM Go.Proofs.YtbpndiegbfpigaaDoor.FixpW

theorem isD_no {c : UInt8} (h : isD c = false) : (c.toNat : Int) < 48 ∨ (57 : Int) < c.toNat := by
  have : ¬ (48 ≤ c.toNat ∧ c.toNat ≤ 57) := fun hh => by rw [isD_iff.2 hh] at h; cases h
  omega
theorem c46 {c : UInt8} : ((c.toNat : Int) == 46) = decide (c = 46) := by
  rw [Bool.eq_iff_iff]
  simp
  constructor
  · intro h; exact UInt8.toNat_inj.1 (by have : (46 : UInt8).toNat = 46 := rfl; omega)
  · rintro rfl; rfl
theorem take_snoc8 (r : List UInt8) (j : Nat) (h : j < r.length) : r.take (j + 1) = r.take j ++ [r[j]] := List.take_succ_eq_append_getElem h
/-- a multiplication by ten -/
theorem acc_ten {V : Nat} {x : Int} (h : Acc V x false) : (decide ((M10 : Int) < x) = true → Acc (V * 10) x true) ∧ (decide ((M10 : Int) < x) = false → Acc (V * 10) (x * 10) false) := by
  have := acc_digit (d := 0) h (by decide)
  simp only [Nat.add_zero, Int.natCast_zero, Int.add_zero] at this
  exact ⟨fun h1 => this.1 h1 x, this.2⟩
theorem acc_ten_over {V : Nat} {x : Int} (h : Acc V x true) : Acc (V * 10) x true := by
  have := acc_over (d := 0) h x
  simpa using this
/-- the text behind its sign -/
structure Sign (s : ByteArray) (r : List UInt8) (f : Nat) : Prop where
  len : s.size = f + r.length
  get : ∀ (j : Nat) (h : j < r.length) (h2 : f + j < s.size), s[f + j]'h2 = r[j]
theorem sign_of (s : ByteArray) : Sign s (restT s.data.toList) (if negT s.data.toList then 1 else 0) := by
  have hz : s.size = s.data.toList.length := rfl
  have hg : ∀ (k : Nat) (h : k < s.data.toList.length) (h2 : k < s.size), s[k]'h2 = s.data.toList[k] := fun k h h2 => rfl
  unfold restT
  by_cases hn : negT s.data.toList = true
  · rw [if_pos hn, if_pos hn]
    have hne : s.data.toList ≠ [] := by intro e; unfold negT at hn; rw [e] at hn; simp at hn
    refine ⟨?_, fun j h h2 => ?_⟩
    · rw [hz, List.length_tail]; have := List.length_pos_iff.2 hne; omega
    · rw [hg (1 + j) (by rw [hz] at h2; exact h2) h2, List.getElem_tail]
      congr 1; omega
  · rw [if_neg hn, if_neg hn]
    exact ⟨by rw [hz]; omega, fun j h h2 => by rw [hg (0 + j) (by rw [hz] at h2; exact h2) h2]; congr 1; omega⟩

theorem fine_of {t r : List UInt8} {q : Nat} (hr : restT t = r) (h : bad t q = false) : parseF t q = if DecM.Max < amt r q then (0, 4) else (if negT t then -(amt r q : Int) else (amt r q : Int), 0) := by
  unfold parseF
  rw [h, hr]; rfl
/-- between two multiplications -/
def MulR (q m V : Nat) (o x n : Value) : Prop :=
  ∃ (k : Nat) (X : Int) (O : Bool), m ≤ k ∧ k ≤ q ∧ n = .int .i64 k ∧ o = .bool O ∧ x = .int .i64 X ∧ Hid (Acc (V * 10 ^ (k - m)) X O) ∧ Hid (O = false → 0 ≤ X ∧ X ≤ 4611686018427387909)
theorem MulR.mk {q m V : Nat} {n : Value} (k : Nat) (X : Int) (O : Bool) (h1 : m ≤ k) (h2 : k ≤ q) (hn : n = .int .i64 (k : Int)) (ha : Acc (V * 10 ^ (k - m)) X O) (hX : O = false → 0 ≤ X ∧ X ≤ 4611686018427387909) :
    MulR q m V (.bool O) (.int .i64 X) n := ⟨k, X, O, h1, h2, hn, rfl, rfl, ha, hX⟩
/-- between two bytes of the scan -/
def ScanR (s : ByteArray) (r : List UInt8) (f : Nat) (a wh pt ov x : Value) : Prop :=
  ∃ (k : Nat) (W P X : Int) (O : Bool), f ≤ k ∧ k ≤ s.size ∧ a = .int .i64 k ∧ wh = .int .i64 W ∧ pt = .int .i64 P ∧ ov = .bool O ∧ x = .int .i64 X ∧ Hid (Scan (r.take (k - f)) W P O X) ∧ 0 ≤ W ∧ W ≤ k ∧ -1 ≤ P ∧ P ≤ k ∧ Hid (O = false → 0 ≤ X ∧ X ≤ 4611686018427387909)
theorem ScanR.mk {s : ByteArray} {r : List UInt8} {f : Nat} {a : Value} (k : Nat) (W P X : Int) (O : Bool) (h1 : f ≤ k) (h2 : k ≤ s.size) (ha : a = .int .i64 (k : Int)) (hs : Scan (r.take (k - f)) W P O X) (h3 : 0 ≤ W) (h4 : W ≤ k) (h5 : -1 ≤ P) (h6 : P ≤ k) (h7 : O = false → 0 ≤ X ∧ X ≤ 4611686018427387909) :
    ScanR s r f a (.int .i64 W) (.int .i64 P) (.bool O) (.int .i64 X) := ⟨k, W, P, X, O, h1, h2, ha, rfl, rfl, rfl, rfl, hs, h3, h4, h5, h6, h7⟩
set_option maxHeartbeats 2000000 in
set_option maxRecDepth 20000 in
theorem rparse_calls (s : ByteArray) (p : Int) (w : World) (hs : s.size ≤ 9223372036854775000) (hp : I64 p) :
    Calls Tryd.prog 29 #[.string s, .int .i64 p] w fun e w' => e = .returned (ParV s.data.toList p) ∧ w = w' := by
  unfold I64 at hp
  by_cases h : p < 0 ∨ 9 < p
  · rw [ParV_arg h]
    go_enter Tryd.func29, Tryd.ntmps29
    rcases h with h | h
    · go_wp2_with fail
      go_ret2
      exact ⟨rfl, rfl⟩
    · go_wp2_with fail
      go_ret2
      exact ⟨rfl, rfl⟩
  obtain ⟨q, rfl⟩ : ∃ q : Nat, p = q := ⟨p.toNat, by omega⟩
  have hq9 : (q : Int) ≤ 9 := by omega
  have HH := Lib.hid h
  clear h hp
  have hS := sign_of s
  have hneg : negT s.data.toList = (decide (0 < s.size) && (decide (0 < s.size) && s.data.toList.head? == some 45)) := by
    unfold negT
    by_cases h0 : 0 < s.size
    · simp [h0]
    · have : s.data.toList = [] := List.eq_nil_of_length_eq_zero (by have : s.data.toList.length = s.size := rfl; omega)
      rw [this]; simp
  obtain ⟨t, ht⟩ : ∃ t, t = s.data.toList := ⟨_, rfl⟩
  rw [← ht] at hS hneg ⊢
  obtain ⟨r, hr⟩ : ∃ r, restT t = r := ⟨_, rfl⟩
  rw [hr] at hS
  have HR := Lib.hid hr
  have HRP := Lib.hid (fun (a b : Int) (e : parseF t q = (a, b)) => ret_par HH.out e)
  go_enter Tryd.func29, Tryd.ntmps29
  by_cases hn : negT t = true
  · have h0 : 0 < s.size := by
      have h9 := hneg
      rw [hn] at h9
      by_cases h0 : 0 < s.size
      · exact h0
      · simp [h0] at h9
    have hb : ((s[0].toNat : Int) == 45) = true := by
      have e : s.data.toList.head? = some 45 := by rw [← ht]; unfold negT at hn; simpa using hn
      have e2 : s.data.toList.head? = some s[0] := by
        rw [List.head?_eq_getElem?, List.getElem?_eq_getElem h0]; rfl
      rw [e2] at e
      have := Option.some.inj e
      rw [this]; rfl
    rw [if_pos hn] at hS
    have HN := Lib.hid hn
    clear hneg ht hr hn
    go_wp2_with fail
    go_loop [6, 9, 10, 11, 12] (ScanR s r 1) (fun a _ _ _ _ => s.size - (intOf a).toNat)
    case atStart => exact ScanR.mk 1 0 (-1) 0 false (Nat.le_refl _) (by have := hS.len; omega) rfl (by rw [Nat.sub_self]; exact Scan.nil) (by omega) (by omega) (by omega) (by omega) (fun _ => by omega)
    case round =>
      obtain ⟨k, W, P, X, O, hk0, hk, rfl, rfl, rfl, rfl, rfl, hsc, hW0, hW1, hP0, hP1, hX⟩ := hrel
      by_cases hlt : k < s.size
      · have hlen := hS.len
        have hjr : k - 1 < r.length := by omega
        have hget := hS.get (k - 1) hjr (by omega)
        have htk := take_snoc8 r (k - 1) hjr
        have hpre : r.take (k - 1 + 1) <+: r := List.take_prefix _ _
        rw [htk] at hpre
        rw [← hget] at htk hpre
        have hidx : s[1 + (k - 1)]'(by omega) = s[k] := by congr 1; omega
        rw [hidx] at htk hpre
        rw [show k - 1 + 1 = k + 1 - 1 by omega] at htk
        have HT := Lib.hid htk.symm
        have hc256 : s[k].toNat < 256 := s[k].toNat_lt
        clear htk hget hidx hlen
        by_cases hd : isD s[k] = true
        · have hd' := isD_iff.1 hd
          have h48 : (48 : Int) ≤ s[k].toNat := by omega
          have h57 : (s[k].toNat : Int) ≤ 57 := by omega
          have h46 : ((s[k].toNat : Int) == 46) = false := by rw [Bool.eq_false_iff]; simp; omega
          have hd9 : s[k].toNat - 48 ≤ 9 := by omega
          cases O with
          | true =>
            have hnx := Scan.digit hsc.out hd (scan_ov (x := X) X)
            have hX : True := trivial
            clear hsc hpre hd hd'
            by_cases hp : 0 ≤ P
            · have HF := Lib.hid ((hnx).1 hp)
              clear hnx
              go_wp2_with fail
              go_round
              case rel => exact ScanR.mk (k + 1) W (P + 1) X true (by omega) (by omega) (by go_num) (HT.out ▸ HF.out) (by omega) (by omega) (by omega) (by omega) (fun h => by cases h)
              case measure => simp [intOf]; omega
            · have hp' : P < 0 := by omega
              have HF := Lib.hid ((hnx).2 hp')
              clear hnx hp
              go_wp2_with fail
              go_round
              case rel => exact ScanR.mk (k + 1) (W + 1) P X true (by omega) (by omega) (by go_num) (HT.out ▸ HF.out) (by omega) (by omega) (by omega) (by omega) (fun h => by cases h)
              case measure => simp [intOf]; omega
          | false =>
            have hXb := hX.out rfl
            by_cases hm : (461168601842738790 : Int) < X
            · have hnx := Scan.digit hsc.out hd (scan_to hd9 (decide_eq_true hm) X)
              have hX : True := trivial
              clear hsc hpre hd hd'
              by_cases hp : 0 ≤ P
              · have HF := Lib.hid ((hnx).1 hp)
                clear hnx
                go_wp2_with fail
                go_round
                case rel => exact ScanR.mk (k + 1) W (P + 1) X true (by omega) (by omega) (by go_num) (HT.out ▸ HF.out) (by omega) (by omega) (by omega) (by omega) (fun h => by cases h)
                case measure => simp [intOf]; omega
              · have hp' : P < 0 := by omega
                have HF := Lib.hid ((hnx).2 hp')
                clear hnx hp
                go_wp2_with fail
                go_round
                case rel => exact ScanR.mk (k + 1) (W + 1) P X true (by omega) (by omega) (by go_num) (HT.out ▸ HF.out) (by omega) (by omega) (by omega) (by omega) (fun h => by cases h)
                case measure => simp [intOf]; omega
            · have hnx := Scan.digit hsc.out hd (scan_on hd9 (decide_eq_false hm))
              have hcst : ((s[k].toNat - 48 : Nat) : Int) = (s[k].toNat : Int) - 48 := by omega
              rw [hcst] at hnx
              have hX : True := trivial
              clear hsc hpre hd hd' hcst
              by_cases hp : 0 ≤ P
              · have HF := Lib.hid ((hnx).1 hp)
                clear hnx
                go_wp2_with fail
                go_round
                case rel => exact ScanR.mk (k + 1) W (P + 1) (X * 10 + ((s[k].toNat : Int) - 48)) false (by omega) (by omega) (by go_num) (HT.out ▸ HF.out) (by omega) (by omega) (by omega) (by omega) (fun _ => by omega)
                case measure => simp [intOf]; omega
              · have hp' : P < 0 := by omega
                have HF := Lib.hid ((hnx).2 hp')
                clear hnx hp
                go_wp2_with fail
                go_round
                case rel => exact ScanR.mk (k + 1) (W + 1) P (X * 10 + ((s[k].toNat : Int) - 48)) false (by omega) (by omega) (by go_num) (HT.out ▸ HF.out) (by omega) (by omega) (by omega) (by omega) (fun _ => by omega)
                case measure => simp [intOf]; omega
        · have hd' : isD s[k] = false := by simpa using hd
          by_cases hdot : s[k] = 46 ∧ P < 0 ∧ 0 < W
          · have HF := Lib.hid (hsc.out.dot hdot.2.1 hdot.2.2)
            have hpt := hdot.2.1
            have hwt := hdot.2.2
            have hce := hdot.1
            rw [hce] at HT
            have h46 : ((s[k].toNat : Int) == 46) = true := by rw [hce]; rfl
            have HX := Lib.hid hX
            clear hsc hpre hdot hd hd' hX hce
            go_wp2_with fail
            go_round
            case rel => exact ScanR.mk (k + 1) W 0 X O (by omega) (by omega) (by go_num) (HT.out ▸ HF.out) (by omega) (by omega) (by omega) (by omega) HX.out.out
            case measure => simp [intOf]; omega
          · have HE := Lib.hid (HRP.out _ _ (hsc.out.stuck hpre hd' hdot t HR.out q))
            have hno := isD_no hd'
            have HX := Lib.hid hX
            have hnd : ((s[k].toNat : Int) == 46) = true → P < 0 → 0 < W → False := fun h1 h2 h3 => hdot ⟨by rw [c46] at h1; exact of_decide_eq_true h1, h2, h3⟩
            clear hsc hpre hd hd' hX hdot
            by_cases h46 : ((s[k].toNat : Int) == 46) = true
            · have h48 : (s[k].toNat : Int) < 48 := by simp at h46; omega
              by_cases hp : P < 0
              · have hw0 : ¬ 0 < W := fun h3 => hnd h46 hp h3
                clear hnd hno
                go_wp2_with fail
                go_ret2
                exact ⟨HE.out, rfl⟩
              · clear hnd hno
                go_wp2_with fail
                go_ret2
                exact ⟨HE.out, rfl⟩
            · have h46' : ((s[k].toNat : Int) == 46) = false := by simpa using h46
              clear hnd h46
              rcases hno with h | h
              · go_wp2_with fail
                go_ret2
                exact ⟨HE.out, rfl⟩
              · have h9 : ¬ (s[k].toNat : Int) < 48 := by omega
                go_wp2_with fail
                go_ret2
                exact ⟨HE.out, rfl⟩
      · obtain rfl : k = s.size := by omega
        have hsc' : Hid (Scan r W P O X) := by
          have e : s.size - 1 = r.length := by rw [hS.len]; omega
          have := hsc.out
          rw [e, List.take_length] at this
          exact this
        clear hsc hk0 hk hlt
        have hL := fun p => Scan.last HR.out hsc'.out p
        have hD := hsc'.out.done
        have hOK := Lib.hid (fun (h : bad t q = false) => fine_of HR.out h)
        have hbl : bad t q = lastTest W P q (r.head? == some 48) true X O := by rw [hL q, HN.out]
        have HBL := Lib.hid hbl
        have HBAD := Lib.hid (fun (h : bad t q = true) => HRP.out _ _ (bad_form h))
        have HW1 : Hid (1 < W → ((1 : Nat) < s.size) ∧ ∀ h : 1 < s.size, (((s[1]'h).toNat : Int) == 48) = (r.head? == some 48)) := fun h1 => by
          have hlen := hS.len
          have hrl : 0 < r.length := by
            have h2 := hD.1
            have h3 := (whole_len r).2
            omega
          refine ⟨by omega, fun h => ?_⟩
          have hg := hS.get 0 hrl (by omega)
          have he : s[1]'h = r[0] := by rw [← hg]
          rw [he, List.head?_eq_getElem?, List.getElem?_eq_getElem hrl, Bool.eq_iff_iff]
          simp
          exact ⟨fun e => UInt8.toNat_inj.1 (by have : (48 : UInt8).toNat = 48 := rfl; omega), fun e => by rw [e]; rfl⟩
        have HD := Lib.hid hD
        have HX := Lib.hid hX.out
        clear hL hD hbl hX hsc' hS
        by_cases h1 : W = 0
        · have HE := Lib.hid (HBAD.out (by rw [HBL.out]; unfold lastTest; simp [h1]))
          subst h1
          clear HBAD HBL HW1 HD HX hOK
          go_wp2_with fail
          go_ret2
          exact ⟨HE.out, rfl⟩
        have e1 : (W == 0) = false := by simpa using h1
        by_cases h2 : P = 0
        · have HE := Lib.hid (HBAD.out (by rw [HBL.out]; unfold lastTest; simp [h2]))
          subst h2
          clear HBAD HBL HW1 HD HX hOK
          go_wp2_with fail
          go_ret2
          exact ⟨HE.out, rfl⟩
        have e2 : (P == 0) = false := by simpa using h2
        by_cases h3 : (q : Int) < P
        · have HE := Lib.hid (HBAD.out (by rw [HBL.out]; unfold lastTest; simp [h3]))
          clear HBAD HBL HW1 HD HX hOK h1 h2
          go_wp2_with fail
          go_ret2
          exact ⟨HE.out, rfl⟩
        have hq63 : (q : Int) ≤ 9 := hq9
        by_cases h4 : 1 < W
        · obtain ⟨hf1, hf2⟩ := HW1.out h4
          have hf3 := hf2 hf1
          by_cases hz : (r.head? == some 48) = true
          · rw [hz] at hf3
            have HE := Lib.hid (HBAD.out (by rw [HBL.out]; unfold lastTest; rw [hz]; simp [h4]))
            clear HBAD HBL HW1 HD HX hOK h1 h2 hf2 hz
            go_wp2_with fail
            go_ret2
            exact ⟨HE.out, rfl⟩
          · have hz' : (r.head? == some 48) = false := by simpa using hz
            rw [hz'] at hf3
            have HZ : Hid ((decide (1 < W) && (r.head? == some 48)) = false) := by unfold Hid; rw [hz']; simp
            clear HW1 h1 h2 hf2 hz hz'
            by_cases h5 : X = 0 ∧ O = false
            · obtain ⟨rfl, rfl⟩ := h5
              have HE := Lib.hid (HBAD.out (by rw [HBL.out]; unfold lastTest; simp))
              clear HBAD HBL HD HX hOK HZ
              go_wp2_with fail
              go_ret2
              exact ⟨HE.out, rfl⟩
            · have hg : bad t q = false := by
                rw [HBL.out]
                unfold lastTest
                rw [HZ.out, decide_eq_false (by intro h; rw [h] at e1; simp at e1), decide_eq_false (by intro h; rw [h] at e2; simp at e2), decide_eq_false h3]
                cases O <;> simp at h5 ⊢
                exact h5
              have HOK := Lib.hid (hOK.out hg)
              clear HBAD HBL hOK HZ hg
              cases O with
              | true =>
                clear h5
                by_cases h6 : X = 0
                · subst h6
                  obtain ⟨m, hm⟩ : ∃ m : Nat, m = (partT r).length := ⟨_, rfl⟩
                  have hPm := HD.out.2.2.2.2.1
                  rw [← hm] at hPm
                  have HA := Lib.hid HD.out.2.2.2.2.2
                  have HM := Lib.hid hm
                  clear HD hm
                  by_cases hP : P < 0
                  · rw [if_pos hP] at hPm
                    obtain rfl : m = 0 := by omega
                    clear hPm
                    go_upto_block 0 with fail
                    go_loop [11, 12, 14] (MulR q 0 (val (wholeT r ++ partT r))) (fun _ _ n => q - (intOf n).toNat)
                    case atStart => exact MulR.mk 0 0 _ (Nat.le_refl _) (by omega) rfl (by rw [Nat.sub_self, Nat.pow_zero, Nat.mul_one]; exact HA.out) (fun h => HX.out (by first | exact h | trivial))
                    case round =>
                      clear HA HX
                      obtain ⟨k, Y, B, hk1, hk2, rfl, rfl, rfl, ha, hY⟩ := hrel
                      by_cases hlt : k < q
                      · have hpw : Hid (val (wholeT r ++ partT r) * 10 ^ (k + 1 - 0) = val (wholeT r ++ partT r) * 10 ^ (k - 0) * 10) := by
                          unfold Hid
                          rw [show k + 1 - 0 = (k - 0) + 1 by omega, Nat.pow_succ, Nat.mul_assoc]
                        cases B with
                        | true =>
                          have HT := Lib.hid (acc_ten_over ha.out)
                          clear hY ha
                          go_wp2_with fail
                          go_round
                          case rel => exact MulR.mk (k + 1) Y true (by omega) (by omega) (by go_num) (by rw [hpw.out]; exact HT.out) (fun h => by cases h)
                          case measure => simp [intOf]; omega
                        | false =>
                          have hYb := hY.out rfl
                          by_cases hm10 : (461168601842738790 : Int) < Y
                          · have HT := Lib.hid ((acc_ten ha.out).1 (decide_eq_true hm10))
                            clear hY ha
                            go_wp2_with fail
                            go_round
                            case rel => exact MulR.mk (k + 1) Y true (by omega) (by omega) (by go_num) (by rw [hpw.out]; exact HT.out) (fun h => by cases h)
                            case measure => simp [intOf]; omega
                          · have HT := Lib.hid ((acc_ten ha.out).2 (decide_eq_false hm10))
                            clear hY ha
                            go_wp2_with fail
                            go_round
                            case rel => exact MulR.mk (k + 1) (Y * 10) false (by omega) (by omega) (by go_num) (by rw [hpw.out]; exact HT.out) (fun _ => by omega)
                            case measure => simp [intOf]; omega
                      · obtain rfl : k = q := by omega
                        have hamt : val (wholeT r ++ partT r) * 10 ^ (k - 0) = amt r k := by unfold amt; rw [← HM.out]
                        have hE := acc_end ha.out
                        rw [hamt] at hE
                        have HOK2 := HOK.out
                        clear hamt ha hlt HOK HM
                        generalize amt r k = V at *
                        cases B with
                        | true =>
                          have HV : DecM.Max < V := by have := hE.1; simpa using this
                          rw [if_pos HV] at HOK2
                          have HE := Lib.hid (HRP.out _ _ HOK2)
                          clear HV HOK2 hE hY
                          go_wp2_with fail
                          go_ret2
                          exact ⟨HE.out, rfl⟩
                        | false =>
                          by_cases hov : (4611686018427387904 : Int) < Y
                          · have HV : DecM.Max < V := by
                              have h9 := hE.1
                              have : decide ((DecM.Max : Int) < Y) = true := decide_eq_true (by unfold DecM.Max; exact hov)
                              rw [this] at h9
                              simpa using h9
                            rw [if_pos HV] at HOK2
                            have HE := Lib.hid (HRP.out _ _ HOK2)
                            clear HV HOK2 hE hY
                            go_wp2_with fail
                            go_ret2
                            exact ⟨HE.out, rfl⟩
                          · have h8 : decide ((DecM.Max : Int) < Y) = false := decide_eq_false (by unfold DecM.Max; exact hov)
                            have hYV : Y = V := hE.2 (by rw [h8]; rfl)
                            have HV : ¬ DecM.Max < V := by
                              have h9 := hE.1
                              rw [h8] at h9
                              simpa using h9.symm
                            rw [if_neg HV, HN.out] at HOK2
                            have HE := Lib.hid (HRP.out _ _ HOK2)
                            have hYb := hY.out rfl
                            subst hYV
                            clear HV HOK2 hE hY h8
                            go_wp2_with fail
                            go_ret2
                            exact ⟨HE.out, rfl⟩
                  · rw [if_neg hP] at hPm
                    obtain rfl : P = m := hPm
                    go_upto_block 0 with fail
                    go_loop [11, 12, 14] (MulR q m (val (wholeT r ++ partT r))) (fun _ _ n => q - (intOf n).toNat)
                    case atStart => exact MulR.mk m 0 _ (Nat.le_refl _) (by omega) rfl (by rw [Nat.sub_self, Nat.pow_zero, Nat.mul_one]; exact HA.out) (fun h => HX.out (by first | exact h | trivial))
                    case round =>
                      clear HA HX
                      obtain ⟨k, Y, B, hk1, hk2, rfl, rfl, rfl, ha, hY⟩ := hrel
                      by_cases hlt : k < q
                      · have hpw : Hid (val (wholeT r ++ partT r) * 10 ^ (k + 1 - m) = val (wholeT r ++ partT r) * 10 ^ (k - m) * 10) := by
                          unfold Hid
                          rw [show k + 1 - m = (k - m) + 1 by omega, Nat.pow_succ, Nat.mul_assoc]
                        cases B with
                        | true =>
                          have HT := Lib.hid (acc_ten_over ha.out)
                          clear hY ha
                          go_wp2_with fail
                          go_round
                          case rel => exact MulR.mk (k + 1) Y true (by omega) (by omega) (by go_num) (by rw [hpw.out]; exact HT.out) (fun h => by cases h)
                          case measure => simp [intOf]; omega
                        | false =>
                          have hYb := hY.out rfl
                          by_cases hm10 : (461168601842738790 : Int) < Y
                          · have HT := Lib.hid ((acc_ten ha.out).1 (decide_eq_true hm10))
                            clear hY ha
                            go_wp2_with fail
                            go_round
                            case rel => exact MulR.mk (k + 1) Y true (by omega) (by omega) (by go_num) (by rw [hpw.out]; exact HT.out) (fun h => by cases h)
                            case measure => simp [intOf]; omega
                          · have HT := Lib.hid ((acc_ten ha.out).2 (decide_eq_false hm10))
                            clear hY ha
                            go_wp2_with fail
                            go_round
                            case rel => exact MulR.mk (k + 1) (Y * 10) false (by omega) (by omega) (by go_num) (by rw [hpw.out]; exact HT.out) (fun _ => by omega)
                            case measure => simp [intOf]; omega
                      · obtain rfl : k = q := by omega
                        have hamt : val (wholeT r ++ partT r) * 10 ^ (k - m) = amt r k := by unfold amt; rw [← HM.out]
                        have hE := acc_end ha.out
                        rw [hamt] at hE
                        have HOK2 := HOK.out
                        clear hamt ha hlt HOK HM
                        generalize amt r k = V at *
                        cases B with
                        | true =>
                          have HV : DecM.Max < V := by have := hE.1; simpa using this
                          rw [if_pos HV] at HOK2
                          have HE := Lib.hid (HRP.out _ _ HOK2)
                          clear HV HOK2 hE hY
                          go_wp2_with fail
                          go_ret2
                          exact ⟨HE.out, rfl⟩
                        | false =>
                          by_cases hov : (4611686018427387904 : Int) < Y
                          · have HV : DecM.Max < V := by
                              have h9 := hE.1
                              have : decide ((DecM.Max : Int) < Y) = true := decide_eq_true (by unfold DecM.Max; exact hov)
                              rw [this] at h9
                              simpa using h9
                            rw [if_pos HV] at HOK2
                            have HE := Lib.hid (HRP.out _ _ HOK2)
                            clear HV HOK2 hE hY
                            go_wp2_with fail
                            go_ret2
                            exact ⟨HE.out, rfl⟩
                          · have h8 : decide ((DecM.Max : Int) < Y) = false := decide_eq_false (by unfold DecM.Max; exact hov)
                            have hYV : Y = V := hE.2 (by rw [h8]; rfl)
                            have HV : ¬ DecM.Max < V := by
                              have h9 := hE.1
                              rw [h8] at h9
                              simpa using h9.symm
                            rw [if_neg HV, HN.out] at HOK2
                            have HE := Lib.hid (HRP.out _ _ HOK2)
                            have hYb := hY.out rfl
                            subst hYV
                            clear HV HOK2 hE hY h8
                            go_wp2_with fail
                            go_ret2
                            exact ⟨HE.out, rfl⟩
                · have e5 : (X == 0) = false := by simpa using h6
                  clear h6
                  obtain ⟨m, hm⟩ : ∃ m : Nat, m = (partT r).length := ⟨_, rfl⟩
                  have hPm := HD.out.2.2.2.2.1
                  rw [← hm] at hPm
                  have HA := Lib.hid HD.out.2.2.2.2.2
                  have HM := Lib.hid hm
                  clear HD hm
                  by_cases hP : P < 0
                  · rw [if_pos hP] at hPm
                    obtain rfl : m = 0 := by omega
                    clear hPm
                    go_upto_block 0 with fail
                    go_loop [11, 12, 14] (MulR q 0 (val (wholeT r ++ partT r))) (fun _ _ n => q - (intOf n).toNat)
                    case atStart => exact MulR.mk 0 X _ (Nat.le_refl _) (by omega) rfl (by rw [Nat.sub_self, Nat.pow_zero, Nat.mul_one]; exact HA.out) (fun h => HX.out (by first | exact h | trivial))
                    case round =>
                      clear HA HX
                      obtain ⟨k, Y, B, hk1, hk2, rfl, rfl, rfl, ha, hY⟩ := hrel
                      by_cases hlt : k < q
                      · have hpw : Hid (val (wholeT r ++ partT r) * 10 ^ (k + 1 - 0) = val (wholeT r ++ partT r) * 10 ^ (k - 0) * 10) := by
                          unfold Hid
                          rw [show k + 1 - 0 = (k - 0) + 1 by omega, Nat.pow_succ, Nat.mul_assoc]
                        cases B with
                        | true =>
                          have HT := Lib.hid (acc_ten_over ha.out)
                          clear hY ha
                          go_wp2_with fail
                          go_round
                          case rel => exact MulR.mk (k + 1) Y true (by omega) (by omega) (by go_num) (by rw [hpw.out]; exact HT.out) (fun h => by cases h)
                          case measure => simp [intOf]; omega
                        | false =>
                          have hYb := hY.out rfl
                          by_cases hm10 : (461168601842738790 : Int) < Y
                          · have HT := Lib.hid ((acc_ten ha.out).1 (decide_eq_true hm10))
                            clear hY ha
                            go_wp2_with fail
                            go_round
                            case rel => exact MulR.mk (k + 1) Y true (by omega) (by omega) (by go_num) (by rw [hpw.out]; exact HT.out) (fun h => by cases h)
                            case measure => simp [intOf]; omega
                          · have HT := Lib.hid ((acc_ten ha.out).2 (decide_eq_false hm10))
                            clear hY ha
                            go_wp2_with fail
                            go_round
                            case rel => exact MulR.mk (k + 1) (Y * 10) false (by omega) (by omega) (by go_num) (by rw [hpw.out]; exact HT.out) (fun _ => by omega)
                            case measure => simp [intOf]; omega
                      · obtain rfl : k = q := by omega
                        have hamt : val (wholeT r ++ partT r) * 10 ^ (k - 0) = amt r k := by unfold amt; rw [← HM.out]
                        have hE := acc_end ha.out
                        rw [hamt] at hE
                        have HOK2 := HOK.out
                        clear hamt ha hlt HOK HM
                        generalize amt r k = V at *
                        cases B with
                        | true =>
                          have HV : DecM.Max < V := by have := hE.1; simpa using this
                          rw [if_pos HV] at HOK2
                          have HE := Lib.hid (HRP.out _ _ HOK2)
                          clear HV HOK2 hE hY
                          go_wp2_with fail
                          go_ret2
                          exact ⟨HE.out, rfl⟩
                        | false =>
                          by_cases hov : (4611686018427387904 : Int) < Y
                          · have HV : DecM.Max < V := by
                              have h9 := hE.1
                              have : decide ((DecM.Max : Int) < Y) = true := decide_eq_true (by unfold DecM.Max; exact hov)
                              rw [this] at h9
                              simpa using h9
                            rw [if_pos HV] at HOK2
                            have HE := Lib.hid (HRP.out _ _ HOK2)
                            clear HV HOK2 hE hY
                            go_wp2_with fail
                            go_ret2
                            exact ⟨HE.out, rfl⟩
                          · have h8 : decide ((DecM.Max : Int) < Y) = false := decide_eq_false (by unfold DecM.Max; exact hov)
                            have hYV : Y = V := hE.2 (by rw [h8]; rfl)
                            have HV : ¬ DecM.Max < V := by
                              have h9 := hE.1
                              rw [h8] at h9
                              simpa using h9.symm
                            rw [if_neg HV, HN.out] at HOK2
                            have HE := Lib.hid (HRP.out _ _ HOK2)
                            have hYb := hY.out rfl
                            subst hYV
                            clear HV HOK2 hE hY h8
                            go_wp2_with fail
                            go_ret2
                            exact ⟨HE.out, rfl⟩
                  · rw [if_neg hP] at hPm
                    obtain rfl : P = m := hPm
                    go_upto_block 0 with fail
                    go_loop [11, 12, 14] (MulR q m (val (wholeT r ++ partT r))) (fun _ _ n => q - (intOf n).toNat)
                    case atStart => exact MulR.mk m X _ (Nat.le_refl _) (by omega) rfl (by rw [Nat.sub_self, Nat.pow_zero, Nat.mul_one]; exact HA.out) (fun h => HX.out (by first | exact h | trivial))
                    case round =>
                      clear HA HX
                      obtain ⟨k, Y, B, hk1, hk2, rfl, rfl, rfl, ha, hY⟩ := hrel
                      by_cases hlt : k < q
                      · have hpw : Hid (val (wholeT r ++ partT r) * 10 ^ (k + 1 - m) = val (wholeT r ++ partT r) * 10 ^ (k - m) * 10) := by
                          unfold Hid
                          rw [show k + 1 - m = (k - m) + 1 by omega, Nat.pow_succ, Nat.mul_assoc]
                        cases B with
                        | true =>
                          have HT := Lib.hid (acc_ten_over ha.out)
                          clear hY ha
                          go_wp2_with fail
                          go_round
                          case rel => exact MulR.mk (k + 1) Y true (by omega) (by omega) (by go_num) (by rw [hpw.out]; exact HT.out) (fun h => by cases h)
                          case measure => simp [intOf]; omega
                        | false =>
                          have hYb := hY.out rfl
                          by_cases hm10 : (461168601842738790 : Int) < Y
                          · have HT := Lib.hid ((acc_ten ha.out).1 (decide_eq_true hm10))
                            clear hY ha
                            go_wp2_with fail
                            go_round
                            case rel => exact MulR.mk (k + 1) Y true (by omega) (by omega) (by go_num) (by rw [hpw.out]; exact HT.out) (fun h => by cases h)
                            case measure => simp [intOf]; omega
                          · have HT := Lib.hid ((acc_ten ha.out).2 (decide_eq_false hm10))
                            clear hY ha
                            go_wp2_with fail
                            go_round
                            case rel => exact MulR.mk (k + 1) (Y * 10) false (by omega) (by omega) (by go_num) (by rw [hpw.out]; exact HT.out) (fun _ => by omega)
                            case measure => simp [intOf]; omega
                      · obtain rfl : k = q := by omega
                        have hamt : val (wholeT r ++ partT r) * 10 ^ (k - m) = amt r k := by unfold amt; rw [← HM.out]
                        have hE := acc_end ha.out
                        rw [hamt] at hE
                        have HOK2 := HOK.out
                        clear hamt ha hlt HOK HM
                        generalize amt r k = V at *
                        cases B with
                        | true =>
                          have HV : DecM.Max < V := by have := hE.1; simpa using this
                          rw [if_pos HV] at HOK2
                          have HE := Lib.hid (HRP.out _ _ HOK2)
                          clear HV HOK2 hE hY
                          go_wp2_with fail
                          go_ret2
                          exact ⟨HE.out, rfl⟩
                        | false =>
                          by_cases hov : (4611686018427387904 : Int) < Y
                          · have HV : DecM.Max < V := by
                              have h9 := hE.1
                              have : decide ((DecM.Max : Int) < Y) = true := decide_eq_true (by unfold DecM.Max; exact hov)
                              rw [this] at h9
                              simpa using h9
                            rw [if_pos HV] at HOK2
                            have HE := Lib.hid (HRP.out _ _ HOK2)
                            clear HV HOK2 hE hY
                            go_wp2_with fail
                            go_ret2
                            exact ⟨HE.out, rfl⟩
                          · have h8 : decide ((DecM.Max : Int) < Y) = false := decide_eq_false (by unfold DecM.Max; exact hov)
                            have hYV : Y = V := hE.2 (by rw [h8]; rfl)
                            have HV : ¬ DecM.Max < V := by
                              have h9 := hE.1
                              rw [h8] at h9
                              simpa using h9.symm
                            rw [if_neg HV, HN.out] at HOK2
                            have HE := Lib.hid (HRP.out _ _ HOK2)
                            have hYb := hY.out rfl
                            subst hYV
                            clear HV HOK2 hE hY h8
                            go_wp2_with fail
                            go_ret2
                            exact ⟨HE.out, rfl⟩
              | false =>
                have e5 : (X == 0) = false := by simp; simpa using h5
                clear h5
                obtain ⟨m, hm⟩ : ∃ m : Nat, m = (partT r).length := ⟨_, rfl⟩
                have hPm := HD.out.2.2.2.2.1
                rw [← hm] at hPm
                have HA := Lib.hid HD.out.2.2.2.2.2
                have HM := Lib.hid hm
                clear HD hm
                by_cases hP : P < 0
                · rw [if_pos hP] at hPm
                  obtain rfl : m = 0 := by omega
                  clear hPm
                  go_upto_block 0 with fail
                  go_loop [11, 12, 14] (MulR q 0 (val (wholeT r ++ partT r))) (fun _ _ n => q - (intOf n).toNat)
                  case atStart => exact MulR.mk 0 X _ (Nat.le_refl _) (by omega) rfl (by rw [Nat.sub_self, Nat.pow_zero, Nat.mul_one]; exact HA.out) (fun h => HX.out (by first | exact h | trivial))
                  case round =>
                    clear HA HX
                    obtain ⟨k, Y, B, hk1, hk2, rfl, rfl, rfl, ha, hY⟩ := hrel
                    by_cases hlt : k < q
                    · have hpw : Hid (val (wholeT r ++ partT r) * 10 ^ (k + 1 - 0) = val (wholeT r ++ partT r) * 10 ^ (k - 0) * 10) := by
                        unfold Hid
                        rw [show k + 1 - 0 = (k - 0) + 1 by omega, Nat.pow_succ, Nat.mul_assoc]
                      cases B with
                      | true =>
                        have HT := Lib.hid (acc_ten_over ha.out)
                        clear hY ha
                        go_wp2_with fail
                        go_round
                        case rel => exact MulR.mk (k + 1) Y true (by omega) (by omega) (by go_num) (by rw [hpw.out]; exact HT.out) (fun h => by cases h)
                        case measure => simp [intOf]; omega
                      | false =>
                        have hYb := hY.out rfl
                        by_cases hm10 : (461168601842738790 : Int) < Y
                        · have HT := Lib.hid ((acc_ten ha.out).1 (decide_eq_true hm10))
                          clear hY ha
                          go_wp2_with fail
                          go_round
                          case rel => exact MulR.mk (k + 1) Y true (by omega) (by omega) (by go_num) (by rw [hpw.out]; exact HT.out) (fun h => by cases h)
                          case measure => simp [intOf]; omega
                        · have HT := Lib.hid ((acc_ten ha.out).2 (decide_eq_false hm10))
                          clear hY ha
                          go_wp2_with fail
                          go_round
                          case rel => exact MulR.mk (k + 1) (Y * 10) false (by omega) (by omega) (by go_num) (by rw [hpw.out]; exact HT.out) (fun _ => by omega)
                          case measure => simp [intOf]; omega
                    · obtain rfl : k = q := by omega
                      have hamt : val (wholeT r ++ partT r) * 10 ^ (k - 0) = amt r k := by unfold amt; rw [← HM.out]
                      have hE := acc_end ha.out
                      rw [hamt] at hE
                      have HOK2 := HOK.out
                      clear hamt ha hlt HOK HM
                      generalize amt r k = V at *
                      cases B with
                      | true =>
                        have HV : DecM.Max < V := by have := hE.1; simpa using this
                        rw [if_pos HV] at HOK2
                        have HE := Lib.hid (HRP.out _ _ HOK2)
                        clear HV HOK2 hE hY
                        go_wp2_with fail
                        go_ret2
                        exact ⟨HE.out, rfl⟩
                      | false =>
                        by_cases hov : (4611686018427387904 : Int) < Y
                        · have HV : DecM.Max < V := by
                            have h9 := hE.1
                            have : decide ((DecM.Max : Int) < Y) = true := decide_eq_true (by unfold DecM.Max; exact hov)
                            rw [this] at h9
                            simpa using h9
                          rw [if_pos HV] at HOK2
                          have HE := Lib.hid (HRP.out _ _ HOK2)
                          clear HV HOK2 hE hY
                          go_wp2_with fail
                          go_ret2
                          exact ⟨HE.out, rfl⟩
                        · have h8 : decide ((DecM.Max : Int) < Y) = false := decide_eq_false (by unfold DecM.Max; exact hov)
                          have hYV : Y = V := hE.2 (by rw [h8]; rfl)
                          have HV : ¬ DecM.Max < V := by
                            have h9 := hE.1
                            rw [h8] at h9
                            simpa using h9.symm
                          rw [if_neg HV, HN.out] at HOK2
                          have HE := Lib.hid (HRP.out _ _ HOK2)
                          have hYb := hY.out rfl
                          subst hYV
                          clear HV HOK2 hE hY h8
                          go_wp2_with fail
                          go_ret2
                          exact ⟨HE.out, rfl⟩
                · rw [if_neg hP] at hPm
                  obtain rfl : P = m := hPm
                  go_upto_block 0 with fail
                  go_loop [11, 12, 14] (MulR q m (val (wholeT r ++ partT r))) (fun _ _ n => q - (intOf n).toNat)
                  case atStart => exact MulR.mk m X _ (Nat.le_refl _) (by omega) rfl (by rw [Nat.sub_self, Nat.pow_zero, Nat.mul_one]; exact HA.out) (fun h => HX.out (by first | exact h | trivial))
                  case round =>
                    clear HA HX
                    obtain ⟨k, Y, B, hk1, hk2, rfl, rfl, rfl, ha, hY⟩ := hrel
                    by_cases hlt : k < q
                    · have hpw : Hid (val (wholeT r ++ partT r) * 10 ^ (k + 1 - m) = val (wholeT r ++ partT r) * 10 ^ (k - m) * 10) := by
                        unfold Hid
                        rw [show k + 1 - m = (k - m) + 1 by omega, Nat.pow_succ, Nat.mul_assoc]
                      cases B with
                      | true =>
                        have HT := Lib.hid (acc_ten_over ha.out)
                        clear hY ha
                        go_wp2_with fail
                        go_round
                        case rel => exact MulR.mk (k + 1) Y true (by omega) (by omega) (by go_num) (by rw [hpw.out]; exact HT.out) (fun h => by cases h)
                        case measure => simp [intOf]; omega
                      | false =>
                        have hYb := hY.out rfl
                        by_cases hm10 : (461168601842738790 : Int) < Y
                        · have HT := Lib.hid ((acc_ten ha.out).1 (decide_eq_true hm10))
                          clear hY ha
                          go_wp2_with fail
                          go_round
                          case rel => exact MulR.mk (k + 1) Y true (by omega) (by omega) (by go_num) (by rw [hpw.out]; exact HT.out) (fun h => by cases h)
                          case measure => simp [intOf]; omega
                        · have HT := Lib.hid ((acc_ten ha.out).2 (decide_eq_false hm10))
                          clear hY ha
                          go_wp2_with fail
                          go_round
                          case rel => exact MulR.mk (k + 1) (Y * 10) false (by omega) (by omega) (by go_num) (by rw [hpw.out]; exact HT.out) (fun _ => by omega)
                          case measure => simp [intOf]; omega
                    · obtain rfl : k = q := by omega
                      have hamt : val (wholeT r ++ partT r) * 10 ^ (k - m) = amt r k := by unfold amt; rw [← HM.out]
                      have hE := acc_end ha.out
                      rw [hamt] at hE
                      have HOK2 := HOK.out
                      clear hamt ha hlt HOK HM
                      generalize amt r k = V at *
                      cases B with
                      | true =>
                        have HV : DecM.Max < V := by have := hE.1; simpa using this
                        rw [if_pos HV] at HOK2
                        have HE := Lib.hid (HRP.out _ _ HOK2)
                        clear HV HOK2 hE hY
                        go_wp2_with fail
                        go_ret2
                        exact ⟨HE.out, rfl⟩
                      | false =>
                        by_cases hov : (4611686018427387904 : Int) < Y
                        · have HV : DecM.Max < V := by
                            have h9 := hE.1
                            have : decide ((DecM.Max : Int) < Y) = true := decide_eq_true (by unfold DecM.Max; exact hov)
                            rw [this] at h9
                            simpa using h9
                          rw [if_pos HV] at HOK2
                          have HE := Lib.hid (HRP.out _ _ HOK2)
                          clear HV HOK2 hE hY
                          go_wp2_with fail
                          go_ret2
                          exact ⟨HE.out, rfl⟩
                        · have h8 : decide ((DecM.Max : Int) < Y) = false := decide_eq_false (by unfold DecM.Max; exact hov)
                          have hYV : Y = V := hE.2 (by rw [h8]; rfl)
                          have HV : ¬ DecM.Max < V := by
                            have h9 := hE.1
                            rw [h8] at h9
                            simpa using h9.symm
                          rw [if_neg HV, HN.out] at HOK2
                          have HE := Lib.hid (HRP.out _ _ HOK2)
                          have hYb := hY.out rfl
                          subst hYV
                          clear HV HOK2 hE hY h8
                          go_wp2_with fail
                          go_ret2
                          exact ⟨HE.out, rfl⟩
        · have HZ : Hid ((decide (1 < W) && (r.head? == some 48)) = false) := by unfold Hid; rw [decide_eq_false h4]; rfl
          clear HW1 h1 h2
          by_cases h5 : X = 0 ∧ O = false
          · obtain ⟨rfl, rfl⟩ := h5
            have HE := Lib.hid (HBAD.out (by rw [HBL.out]; unfold lastTest; simp))
            clear HBAD HBL HD HX hOK HZ
            go_wp2_with fail
            go_ret2
            exact ⟨HE.out, rfl⟩
          · have hg : bad t q = false := by
              rw [HBL.out]
              unfold lastTest
              rw [HZ.out, decide_eq_false (by intro h; rw [h] at e1; simp at e1), decide_eq_false (by intro h; rw [h] at e2; simp at e2), decide_eq_false h3]
              cases O <;> simp at h5 ⊢
              exact h5
            have HOK := Lib.hid (hOK.out hg)
            clear HBAD HBL hOK HZ hg
            cases O with
            | true =>
              clear h5
              by_cases h6 : X = 0
              · subst h6
                obtain ⟨m, hm⟩ : ∃ m : Nat, m = (partT r).length := ⟨_, rfl⟩
                have hPm := HD.out.2.2.2.2.1
                rw [← hm] at hPm
                have HA := Lib.hid HD.out.2.2.2.2.2
                have HM := Lib.hid hm
                clear HD hm
                by_cases hP : P < 0
                · rw [if_pos hP] at hPm
                  obtain rfl : m = 0 := by omega
                  clear hPm
                  go_upto_block 0 with fail
                  go_loop [11, 12, 14] (MulR q 0 (val (wholeT r ++ partT r))) (fun _ _ n => q - (intOf n).toNat)
                  case atStart => exact MulR.mk 0 0 _ (Nat.le_refl _) (by omega) rfl (by rw [Nat.sub_self, Nat.pow_zero, Nat.mul_one]; exact HA.out) (fun h => HX.out (by first | exact h | trivial))
                  case round =>
                    clear HA HX
                    obtain ⟨k, Y, B, hk1, hk2, rfl, rfl, rfl, ha, hY⟩ := hrel
                    by_cases hlt : k < q
                    · have hpw : Hid (val (wholeT r ++ partT r) * 10 ^ (k + 1 - 0) = val (wholeT r ++ partT r) * 10 ^ (k - 0) * 10) := by
                        unfold Hid
                        rw [show k + 1 - 0 = (k - 0) + 1 by omega, Nat.pow_succ, Nat.mul_assoc]
                      cases B with
                      | true =>
                        have HT := Lib.hid (acc_ten_over ha.out)
                        clear hY ha
                        go_wp2_with fail
                        go_round
                        case rel => exact MulR.mk (k + 1) Y true (by omega) (by omega) (by go_num) (by rw [hpw.out]; exact HT.out) (fun h => by cases h)
                        case measure => simp [intOf]; omega
                      | false =>
                        have hYb := hY.out rfl
                        by_cases hm10 : (461168601842738790 : Int) < Y
                        · have HT := Lib.hid ((acc_ten ha.out).1 (decide_eq_true hm10))
                          clear hY ha
                          go_wp2_with fail
                          go_round
                          case rel => exact MulR.mk (k + 1) Y true (by omega) (by omega) (by go_num) (by rw [hpw.out]; exact HT.out) (fun h => by cases h)
                          case measure => simp [intOf]; omega
                        · have HT := Lib.hid ((acc_ten ha.out).2 (decide_eq_false hm10))
                          clear hY ha
                          go_wp2_with fail
                          go_round
                          case rel => exact MulR.mk (k + 1) (Y * 10) false (by omega) (by omega) (by go_num) (by rw [hpw.out]; exact HT.out) (fun _ => by omega)
                          case measure => simp [intOf]; omega
                    · obtain rfl : k = q := by omega
                      have hamt : val (wholeT r ++ partT r) * 10 ^ (k - 0) = amt r k := by unfold amt; rw [← HM.out]
                      have hE := acc_end ha.out
                      rw [hamt] at hE
                      have HOK2 := HOK.out
                      clear hamt ha hlt HOK HM
                      generalize amt r k = V at *
                      cases B with
                      | true =>
                        have HV : DecM.Max < V := by have := hE.1; simpa using this
                        rw [if_pos HV] at HOK2
                        have HE := Lib.hid (HRP.out _ _ HOK2)
                        clear HV HOK2 hE hY
                        go_wp2_with fail
                        go_ret2
                        exact ⟨HE.out, rfl⟩
                      | false =>
                        by_cases hov : (4611686018427387904 : Int) < Y
                        · have HV : DecM.Max < V := by
                            have h9 := hE.1
                            have : decide ((DecM.Max : Int) < Y) = true := decide_eq_true (by unfold DecM.Max; exact hov)
                            rw [this] at h9
                            simpa using h9
                          rw [if_pos HV] at HOK2
                          have HE := Lib.hid (HRP.out _ _ HOK2)
                          clear HV HOK2 hE hY
                          go_wp2_with fail
                          go_ret2
                          exact ⟨HE.out, rfl⟩
                        · have h8 : decide ((DecM.Max : Int) < Y) = false := decide_eq_false (by unfold DecM.Max; exact hov)
                          have hYV : Y = V := hE.2 (by rw [h8]; rfl)
                          have HV : ¬ DecM.Max < V := by
                            have h9 := hE.1
                            rw [h8] at h9
                            simpa using h9.symm
                          rw [if_neg HV, HN.out] at HOK2
                          have HE := Lib.hid (HRP.out _ _ HOK2)
                          have hYb := hY.out rfl
                          subst hYV
                          clear HV HOK2 hE hY h8
                          go_wp2_with fail
                          go_ret2
                          exact ⟨HE.out, rfl⟩
                · rw [if_neg hP] at hPm
                  obtain rfl : P = m := hPm
                  go_upto_block 0 with fail
                  go_loop [11, 12, 14] (MulR q m (val (wholeT r ++ partT r))) (fun _ _ n => q - (intOf n).toNat)
                  case atStart => exact MulR.mk m 0 _ (Nat.le_refl _) (by omega) rfl (by rw [Nat.sub_self, Nat.pow_zero, Nat.mul_one]; exact HA.out) (fun h => HX.out (by first | exact h | trivial))
                  case round =>
                    clear HA HX
                    obtain ⟨k, Y, B, hk1, hk2, rfl, rfl, rfl, ha, hY⟩ := hrel
                    by_cases hlt : k < q
                    · have hpw : Hid (val (wholeT r ++ partT r) * 10 ^ (k + 1 - m) = val (wholeT r ++ partT r) * 10 ^ (k - m) * 10) := by
                        unfold Hid
                        rw [show k + 1 - m = (k - m) + 1 by omega, Nat.pow_succ, Nat.mul_assoc]
                      cases B with
                      | true =>
                        have HT := Lib.hid (acc_ten_over ha.out)
                        clear hY ha
                        go_wp2_with fail
                        go_round
                        case rel => exact MulR.mk (k + 1) Y true (by omega) (by omega) (by go_num) (by rw [hpw.out]; exact HT.out) (fun h => by cases h)
                        case measure => simp [intOf]; omega
                      | false =>
                        have hYb := hY.out rfl
                        by_cases hm10 : (461168601842738790 : Int) < Y
                        · have HT := Lib.hid ((acc_ten ha.out).1 (decide_eq_true hm10))
                          clear hY ha
                          go_wp2_with fail
                          go_round
                          case rel => exact MulR.mk (k + 1) Y true (by omega) (by omega) (by go_num) (by rw [hpw.out]; exact HT.out) (fun h => by cases h)
                          case measure => simp [intOf]; omega
                        · have HT := Lib.hid ((acc_ten ha.out).2 (decide_eq_false hm10))
                          clear hY ha
                          go_wp2_with fail
                          go_round
                          case rel => exact MulR.mk (k + 1) (Y * 10) false (by omega) (by omega) (by go_num) (by rw [hpw.out]; exact HT.out) (fun _ => by omega)
                          case measure => simp [intOf]; omega
                    · obtain rfl : k = q := by omega
                      have hamt : val (wholeT r ++ partT r) * 10 ^ (k - m) = amt r k := by unfold amt; rw [← HM.out]
                      have hE := acc_end ha.out
                      rw [hamt] at hE
                      have HOK2 := HOK.out
                      clear hamt ha hlt HOK HM
                      generalize amt r k = V at *
                      cases B with
                      | true =>
                        have HV : DecM.Max < V := by have := hE.1; simpa using this
                        rw [if_pos HV] at HOK2
                        have HE := Lib.hid (HRP.out _ _ HOK2)
                        clear HV HOK2 hE hY
                        go_wp2_with fail
                        go_ret2
                        exact ⟨HE.out, rfl⟩
                      | false =>
                        by_cases hov : (4611686018427387904 : Int) < Y
                        · have HV : DecM.Max < V := by
                            have h9 := hE.1
                            have : decide ((DecM.Max : Int) < Y) = true := decide_eq_true (by unfold DecM.Max; exact hov)
                            rw [this] at h9
                            simpa using h9
                          rw [if_pos HV] at HOK2
                          have HE := Lib.hid (HRP.out _ _ HOK2)
                          clear HV HOK2 hE hY
                          go_wp2_with fail
                          go_ret2
                          exact ⟨HE.out, rfl⟩
                        · have h8 : decide ((DecM.Max : Int) < Y) = false := decide_eq_false (by unfold DecM.Max; exact hov)
                          have hYV : Y = V := hE.2 (by rw [h8]; rfl)
                          have HV : ¬ DecM.Max < V := by
                            have h9 := hE.1
                            rw [h8] at h9
                            simpa using h9.symm
                          rw [if_neg HV, HN.out] at HOK2
                          have HE := Lib.hid (HRP.out _ _ HOK2)
                          have hYb := hY.out rfl
                          subst hYV
                          clear HV HOK2 hE hY h8
                          go_wp2_with fail
                          go_ret2
                          exact ⟨HE.out, rfl⟩
              · have e5 : (X == 0) = false := by simpa using h6
                clear h6
                obtain ⟨m, hm⟩ : ∃ m : Nat, m = (partT r).length := ⟨_, rfl⟩
                have hPm := HD.out.2.2.2.2.1
                rw [← hm] at hPm
                have HA := Lib.hid HD.out.2.2.2.2.2
                have HM := Lib.hid hm
                clear HD hm
                by_cases hP : P < 0
                · rw [if_pos hP] at hPm
                  obtain rfl : m = 0 := by omega
                  clear hPm
                  go_upto_block 0 with fail
                  go_loop [11, 12, 14] (MulR q 0 (val (wholeT r ++ partT r))) (fun _ _ n => q - (intOf n).toNat)
                  case atStart => exact MulR.mk 0 X _ (Nat.le_refl _) (by omega) rfl (by rw [Nat.sub_self, Nat.pow_zero, Nat.mul_one]; exact HA.out) (fun h => HX.out (by first | exact h | trivial))
                  case round =>
                    clear HA HX
                    obtain ⟨k, Y, B, hk1, hk2, rfl, rfl, rfl, ha, hY⟩ := hrel
                    by_cases hlt : k < q
                    · have hpw : Hid (val (wholeT r ++ partT r) * 10 ^ (k + 1 - 0) = val (wholeT r ++ partT r) * 10 ^ (k - 0) * 10) := by
                        unfold Hid
                        rw [show k + 1 - 0 = (k - 0) + 1 by omega, Nat.pow_succ, Nat.mul_assoc]
                      cases B with
                      | true =>
                        have HT := Lib.hid (acc_ten_over ha.out)
                        clear hY ha
                        go_wp2_with fail
                        go_round
                        case rel => exact MulR.mk (k + 1) Y true (by omega) (by omega) (by go_num) (by rw [hpw.out]; exact HT.out) (fun h => by cases h)
                        case measure => simp [intOf]; omega
                      | false =>
                        have hYb := hY.out rfl
                        by_cases hm10 : (461168601842738790 : Int) < Y
                        · have HT := Lib.hid ((acc_ten ha.out).1 (decide_eq_true hm10))
                          clear hY ha
                          go_wp2_with fail
                          go_round
                          case rel => exact MulR.mk (k + 1) Y true (by omega) (by omega) (by go_num) (by rw [hpw.out]; exact HT.out) (fun h => by cases h)
                          case measure => simp [intOf]; omega
                        · have HT := Lib.hid ((acc_ten ha.out).2 (decide_eq_false hm10))
                          clear hY ha
                          go_wp2_with fail
                          go_round
                          case rel => exact MulR.mk (k + 1) (Y * 10) false (by omega) (by omega) (by go_num) (by rw [hpw.out]; exact HT.out) (fun _ => by omega)
                          case measure => simp [intOf]; omega
                    · obtain rfl : k = q := by omega
                      have hamt : val (wholeT r ++ partT r) * 10 ^ (k - 0) = amt r k := by unfold amt; rw [← HM.out]
                      have hE := acc_end ha.out
                      rw [hamt] at hE
                      have HOK2 := HOK.out
                      clear hamt ha hlt HOK HM
                      generalize amt r k = V at *
                      cases B with
                      | true =>
                        have HV : DecM.Max < V := by have := hE.1; simpa using this
                        rw [if_pos HV] at HOK2
                        have HE := Lib.hid (HRP.out _ _ HOK2)
                        clear HV HOK2 hE hY
                        go_wp2_with fail
                        go_ret2
                        exact ⟨HE.out, rfl⟩
                      | false =>
                        by_cases hov : (4611686018427387904 : Int) < Y
                        · have HV : DecM.Max < V := by
                            have h9 := hE.1
                            have : decide ((DecM.Max : Int) < Y) = true := decide_eq_true (by unfold DecM.Max; exact hov)
                            rw [this] at h9
                            simpa using h9
                          rw [if_pos HV] at HOK2
                          have HE := Lib.hid (HRP.out _ _ HOK2)
                          clear HV HOK2 hE hY
                          go_wp2_with fail
                          go_ret2
                          exact ⟨HE.out, rfl⟩
                        · have h8 : decide ((DecM.Max : Int) < Y) = false := decide_eq_false (by unfold DecM.Max; exact hov)
                          have hYV : Y = V := hE.2 (by rw [h8]; rfl)
                          have HV : ¬ DecM.Max < V := by
                            have h9 := hE.1
                            rw [h8] at h9
                            simpa using h9.symm
                          rw [if_neg HV, HN.out] at HOK2
                          have HE := Lib.hid (HRP.out _ _ HOK2)
                          have hYb := hY.out rfl
                          subst hYV
                          clear HV HOK2 hE hY h8
                          go_wp2_with fail
                          go_ret2
                          exact ⟨HE.out, rfl⟩
                · rw [if_neg hP] at hPm
                  obtain rfl : P = m := hPm
                  go_upto_block 0 with fail
                  go_loop [11, 12, 14] (MulR q m (val (wholeT r ++ partT r))) (fun _ _ n => q - (intOf n).toNat)
                  case atStart => exact MulR.mk m X _ (Nat.le_refl _) (by omega) rfl (by rw [Nat.sub_self, Nat.pow_zero, Nat.mul_one]; exact HA.out) (fun h => HX.out (by first | exact h | trivial))
                  case round =>
                    clear HA HX
                    obtain ⟨k, Y, B, hk1, hk2, rfl, rfl, rfl, ha, hY⟩ := hrel
                    by_cases hlt : k < q
                    · have hpw : Hid (val (wholeT r ++ partT r) * 10 ^ (k + 1 - m) = val (wholeT r ++ partT r) * 10 ^ (k - m) * 10) := by
                        unfold Hid
                        rw [show k + 1 - m = (k - m) + 1 by omega, Nat.pow_succ, Nat.mul_assoc]
                      cases B with
                      | true =>
                        have HT := Lib.hid (acc_ten_over ha.out)
                        clear hY ha
                        go_wp2_with fail
                        go_round
                        case rel => exact MulR.mk (k + 1) Y true (by omega) (by omega) (by go_num) (by rw [hpw.out]; exact HT.out) (fun h => by cases h)
                        case measure => simp [intOf]; omega
                      | false =>
                        have hYb := hY.out rfl
                        by_cases hm10 : (461168601842738790 : Int) < Y
                        · have HT := Lib.hid ((acc_ten ha.out).1 (decide_eq_true hm10))
                          clear hY ha
                          go_wp2_with fail
                          go_round
                          case rel => exact MulR.mk (k + 1) Y true (by omega) (by omega) (by go_num) (by rw [hpw.out]; exact HT.out) (fun h => by cases h)
                          case measure => simp [intOf]; omega
                        · have HT := Lib.hid ((acc_ten ha.out).2 (decide_eq_false hm10))
                          clear hY ha
                          go_wp2_with fail
                          go_round
                          case rel => exact MulR.mk (k + 1) (Y * 10) false (by omega) (by omega) (by go_num) (by rw [hpw.out]; exact HT.out) (fun _ => by omega)
                          case measure => simp [intOf]; omega
                    · obtain rfl : k = q := by omega
                      have hamt : val (wholeT r ++ partT r) * 10 ^ (k - m) = amt r k := by unfold amt; rw [← HM.out]
                      have hE := acc_end ha.out
                      rw [hamt] at hE
                      have HOK2 := HOK.out
                      clear hamt ha hlt HOK HM
                      generalize amt r k = V at *
                      cases B with
                      | true =>
                        have HV : DecM.Max < V := by have := hE.1; simpa using this
                        rw [if_pos HV] at HOK2
                        have HE := Lib.hid (HRP.out _ _ HOK2)
                        clear HV HOK2 hE hY
                        go_wp2_with fail
                        go_ret2
                        exact ⟨HE.out, rfl⟩
                      | false =>
                        by_cases hov : (4611686018427387904 : Int) < Y
                        · have HV : DecM.Max < V := by
                            have h9 := hE.1
                            have : decide ((DecM.Max : Int) < Y) = true := decide_eq_true (by unfold DecM.Max; exact hov)
                            rw [this] at h9
                            simpa using h9
                          rw [if_pos HV] at HOK2
                          have HE := Lib.hid (HRP.out _ _ HOK2)
                          clear HV HOK2 hE hY
                          go_wp2_with fail
                          go_ret2
                          exact ⟨HE.out, rfl⟩
                        · have h8 : decide ((DecM.Max : Int) < Y) = false := decide_eq_false (by unfold DecM.Max; exact hov)
                          have hYV : Y = V := hE.2 (by rw [h8]; rfl)
                          have HV : ¬ DecM.Max < V := by
                            have h9 := hE.1
                            rw [h8] at h9
                            simpa using h9.symm
                          rw [if_neg HV, HN.out] at HOK2
                          have HE := Lib.hid (HRP.out _ _ HOK2)
                          have hYb := hY.out rfl
                          subst hYV
                          clear HV HOK2 hE hY h8
                          go_wp2_with fail
                          go_ret2
                          exact ⟨HE.out, rfl⟩
            | false =>
              have e5 : (X == 0) = false := by simp; simpa using h5
              clear h5
              obtain ⟨m, hm⟩ : ∃ m : Nat, m = (partT r).length := ⟨_, rfl⟩
              have hPm := HD.out.2.2.2.2.1
              rw [← hm] at hPm
              have HA := Lib.hid HD.out.2.2.2.2.2
              have HM := Lib.hid hm
              clear HD hm
              by_cases hP : P < 0
              · rw [if_pos hP] at hPm
                obtain rfl : m = 0 := by omega
                clear hPm
                go_upto_block 0 with fail
                go_loop [11, 12, 14] (MulR q 0 (val (wholeT r ++ partT r))) (fun _ _ n => q - (intOf n).toNat)
                case atStart => exact MulR.mk 0 X _ (Nat.le_refl _) (by omega) rfl (by rw [Nat.sub_self, Nat.pow_zero, Nat.mul_one]; exact HA.out) (fun h => HX.out (by first | exact h | trivial))
                case round =>
                  clear HA HX
                  obtain ⟨k, Y, B, hk1, hk2, rfl, rfl, rfl, ha, hY⟩ := hrel
                  by_cases hlt : k < q
                  · have hpw : Hid (val (wholeT r ++ partT r) * 10 ^ (k + 1 - 0) = val (wholeT r ++ partT r) * 10 ^ (k - 0) * 10) := by
                      unfold Hid
                      rw [show k + 1 - 0 = (k - 0) + 1 by omega, Nat.pow_succ, Nat.mul_assoc]
                    cases B with
                    | true =>
                      have HT := Lib.hid (acc_ten_over ha.out)
                      clear hY ha
                      go_wp2_with fail
                      go_round
                      case rel => exact MulR.mk (k + 1) Y true (by omega) (by omega) (by go_num) (by rw [hpw.out]; exact HT.out) (fun h => by cases h)
                      case measure => simp [intOf]; omega
                    | false =>
                      have hYb := hY.out rfl
                      by_cases hm10 : (461168601842738790 : Int) < Y
                      · have HT := Lib.hid ((acc_ten ha.out).1 (decide_eq_true hm10))
                        clear hY ha
                        go_wp2_with fail
                        go_round
                        case rel => exact MulR.mk (k + 1) Y true (by omega) (by omega) (by go_num) (by rw [hpw.out]; exact HT.out) (fun h => by cases h)
                        case measure => simp [intOf]; omega
                      · have HT := Lib.hid ((acc_ten ha.out).2 (decide_eq_false hm10))
                        clear hY ha
                        go_wp2_with fail
                        go_round
                        case rel => exact MulR.mk (k + 1) (Y * 10) false (by omega) (by omega) (by go_num) (by rw [hpw.out]; exact HT.out) (fun _ => by omega)
                        case measure => simp [intOf]; omega
                  · obtain rfl : k = q := by omega
                    have hamt : val (wholeT r ++ partT r) * 10 ^ (k - 0) = amt r k := by unfold amt; rw [← HM.out]
                    have hE := acc_end ha.out
                    rw [hamt] at hE
                    have HOK2 := HOK.out
                    clear hamt ha hlt HOK HM
                    generalize amt r k = V at *
                    cases B with
                    | true =>
                      have HV : DecM.Max < V := by have := hE.1; simpa using this
                      rw [if_pos HV] at HOK2
                      have HE := Lib.hid (HRP.out _ _ HOK2)
                      clear HV HOK2 hE hY
                      go_wp2_with fail
                      go_ret2
                      exact ⟨HE.out, rfl⟩
                    | false =>
                      by_cases hov : (4611686018427387904 : Int) < Y
                      · have HV : DecM.Max < V := by
                          have h9 := hE.1
                          have : decide ((DecM.Max : Int) < Y) = true := decide_eq_true (by unfold DecM.Max; exact hov)
                          rw [this] at h9
                          simpa using h9
                        rw [if_pos HV] at HOK2
                        have HE := Lib.hid (HRP.out _ _ HOK2)
                        clear HV HOK2 hE hY
                        go_wp2_with fail
                        go_ret2
                        exact ⟨HE.out, rfl⟩
                      · have h8 : decide ((DecM.Max : Int) < Y) = false := decide_eq_false (by unfold DecM.Max; exact hov)
                        have hYV : Y = V := hE.2 (by rw [h8]; rfl)
                        have HV : ¬ DecM.Max < V := by
                          have h9 := hE.1
                          rw [h8] at h9
                          simpa using h9.symm
                        rw [if_neg HV, HN.out] at HOK2
                        have HE := Lib.hid (HRP.out _ _ HOK2)
                        have hYb := hY.out rfl
                        subst hYV
                        clear HV HOK2 hE hY h8
                        go_wp2_with fail
                        go_ret2
                        exact ⟨HE.out, rfl⟩
              · rw [if_neg hP] at hPm
                obtain rfl : P = m := hPm
                go_upto_block 0 with fail
                go_loop [11, 12, 14] (MulR q m (val (wholeT r ++ partT r))) (fun _ _ n => q - (intOf n).toNat)
                case atStart => exact MulR.mk m X _ (Nat.le_refl _) (by omega) rfl (by rw [Nat.sub_self, Nat.pow_zero, Nat.mul_one]; exact HA.out) (fun h => HX.out (by first | exact h | trivial))
                case round =>
                  clear HA HX
                  obtain ⟨k, Y, B, hk1, hk2, rfl, rfl, rfl, ha, hY⟩ := hrel
                  by_cases hlt : k < q
                  · have hpw : Hid (val (wholeT r ++ partT r) * 10 ^ (k + 1 - m) = val (wholeT r ++ partT r) * 10 ^ (k - m) * 10) := by
                      unfold Hid
                      rw [show k + 1 - m = (k - m) + 1 by omega, Nat.pow_succ, Nat.mul_assoc]
                    cases B with
                    | true =>
                      have HT := Lib.hid (acc_ten_over ha.out)
                      clear hY ha
                      go_wp2_with fail
                      go_round
                      case rel => exact MulR.mk (k + 1) Y true (by omega) (by omega) (by go_num) (by rw [hpw.out]; exact HT.out) (fun h => by cases h)
                      case measure => simp [intOf]; omega
                    | false =>
                      have hYb := hY.out rfl
                      by_cases hm10 : (461168601842738790 : Int) < Y
                      · have HT := Lib.hid ((acc_ten ha.out).1 (decide_eq_true hm10))
                        clear hY ha
                        go_wp2_with fail
                        go_round
                        case rel => exact MulR.mk (k + 1) Y true (by omega) (by omega) (by go_num) (by rw [hpw.out]; exact HT.out) (fun h => by cases h)
                        case measure => simp [intOf]; omega
                      · have HT := Lib.hid ((acc_ten ha.out).2 (decide_eq_false hm10))
                        clear hY ha
                        go_wp2_with fail
                        go_round
                        case rel => exact MulR.mk (k + 1) (Y * 10) false (by omega) (by omega) (by go_num) (by rw [hpw.out]; exact HT.out) (fun _ => by omega)
                        case measure => simp [intOf]; omega
                  · obtain rfl : k = q := by omega
                    have hamt : val (wholeT r ++ partT r) * 10 ^ (k - m) = amt r k := by unfold amt; rw [← HM.out]
                    have hE := acc_end ha.out
                    rw [hamt] at hE
                    have HOK2 := HOK.out
                    clear hamt ha hlt HOK HM
                    generalize amt r k = V at *
                    cases B with
                    | true =>
                      have HV : DecM.Max < V := by have := hE.1; simpa using this
                      rw [if_pos HV] at HOK2
                      have HE := Lib.hid (HRP.out _ _ HOK2)
                      clear HV HOK2 hE hY
                      go_wp2_with fail
                      go_ret2
                      exact ⟨HE.out, rfl⟩
                    | false =>
                      by_cases hov : (4611686018427387904 : Int) < Y
                      · have HV : DecM.Max < V := by
                          have h9 := hE.1
                          have : decide ((DecM.Max : Int) < Y) = true := decide_eq_true (by unfold DecM.Max; exact hov)
                          rw [this] at h9
                          simpa using h9
                        rw [if_pos HV] at HOK2
                        have HE := Lib.hid (HRP.out _ _ HOK2)
                        clear HV HOK2 hE hY
                        go_wp2_with fail
                        go_ret2
                        exact ⟨HE.out, rfl⟩
                      · have h8 : decide ((DecM.Max : Int) < Y) = false := decide_eq_false (by unfold DecM.Max; exact hov)
                        have hYV : Y = V := hE.2 (by rw [h8]; rfl)
                        have HV : ¬ DecM.Max < V := by
                          have h9 := hE.1
                          rw [h8] at h9
                          simpa using h9.symm
                        rw [if_neg HV, HN.out] at HOK2
                        have HE := Lib.hid (HRP.out _ _ HOK2)
                        have hYb := hY.out rfl
                        subst hYV
                        clear HV HOK2 hE hY h8
                        go_wp2_with fail
                        go_ret2
                        exact ⟨HE.out, rfl⟩
  · have hn' : negT t = false := by simpa using hn
    rw [if_neg hn] at hS
    have HN := Lib.hid hn'
    by_cases h0 : 0 < s.size
    · have hb : ((s[0].toNat : Int) == 45) = false := by
        rw [Bool.eq_false_iff]
        intro e
        have e1 : s[0] = 45 := UInt8.toNat_inj.1 (by have : (45 : UInt8).toNat = 45 := rfl; simp at e; omega)
        have e2 : s.data.toList.head? = some s[0] := by
          rw [List.head?_eq_getElem?, List.getElem?_eq_getElem h0]; rfl
        rw [e1, ← ht] at e2
        apply hn
        unfold negT
        rw [e2]; rfl
      clear hneg ht hr hn hn'
      go_wp2_with fail
      go_loop [6, 9, 10, 11, 12] (ScanR s r 0) (fun a _ _ _ _ => s.size - (intOf a).toNat)
      case atStart => exact ScanR.mk 0 0 (-1) 0 false (Nat.le_refl _) (by have := hS.len; omega) rfl (by rw [Nat.sub_self]; exact Scan.nil) (by omega) (by omega) (by omega) (by omega) (fun _ => by omega)
      case round =>
        obtain ⟨k, W, P, X, O, hk0, hk, rfl, rfl, rfl, rfl, rfl, hsc, hW0, hW1, hP0, hP1, hX⟩ := hrel
        by_cases hlt : k < s.size
        · have hlen := hS.len
          have hjr : k - 0 < r.length := by omega
          have hget := hS.get (k - 0) hjr (by omega)
          have htk := take_snoc8 r (k - 0) hjr
          have hpre : r.take (k - 0 + 1) <+: r := List.take_prefix _ _
          rw [htk] at hpre
          rw [← hget] at htk hpre
          have hidx : s[0 + (k - 0)]'(by omega) = s[k] := by congr 1; omega
          rw [hidx] at htk hpre
          rw [show k - 0 + 1 = k + 1 - 0 by omega] at htk
          have HT := Lib.hid htk.symm
          have hc256 : s[k].toNat < 256 := s[k].toNat_lt
          clear htk hget hidx hlen
          by_cases hd : isD s[k] = true
          · have hd' := isD_iff.1 hd
            have h48 : (48 : Int) ≤ s[k].toNat := by omega
            have h57 : (s[k].toNat : Int) ≤ 57 := by omega
            have h46 : ((s[k].toNat : Int) == 46) = false := by rw [Bool.eq_false_iff]; simp; omega
            have hd9 : s[k].toNat - 48 ≤ 9 := by omega
            cases O with
            | true =>
              have hnx := Scan.digit hsc.out hd (scan_ov (x := X) X)
              have hX : True := trivial
              clear hsc hpre hd hd'
              by_cases hp : 0 ≤ P
              · have HF := Lib.hid ((hnx).1 hp)
                clear hnx
                go_wp2_with fail
                go_round
                case rel => exact ScanR.mk (k + 1) W (P + 1) X true (by omega) (by omega) (by go_num) (HT.out ▸ HF.out) (by omega) (by omega) (by omega) (by omega) (fun h => by cases h)
                case measure => simp [intOf]; omega
              · have hp' : P < 0 := by omega
                have HF := Lib.hid ((hnx).2 hp')
                clear hnx hp
                go_wp2_with fail
                go_round
                case rel => exact ScanR.mk (k + 1) (W + 1) P X true (by omega) (by omega) (by go_num) (HT.out ▸ HF.out) (by omega) (by omega) (by omega) (by omega) (fun h => by cases h)
                case measure => simp [intOf]; omega
            | false =>
              have hXb := hX.out rfl
              by_cases hm : (461168601842738790 : Int) < X
              · have hnx := Scan.digit hsc.out hd (scan_to hd9 (decide_eq_true hm) X)
                have hX : True := trivial
                clear hsc hpre hd hd'
                by_cases hp : 0 ≤ P
                · have HF := Lib.hid ((hnx).1 hp)
                  clear hnx
                  go_wp2_with fail
                  go_round
                  case rel => exact ScanR.mk (k + 1) W (P + 1) X true (by omega) (by omega) (by go_num) (HT.out ▸ HF.out) (by omega) (by omega) (by omega) (by omega) (fun h => by cases h)
                  case measure => simp [intOf]; omega
                · have hp' : P < 0 := by omega
                  have HF := Lib.hid ((hnx).2 hp')
                  clear hnx hp
                  go_wp2_with fail
                  go_round
                  case rel => exact ScanR.mk (k + 1) (W + 1) P X true (by omega) (by omega) (by go_num) (HT.out ▸ HF.out) (by omega) (by omega) (by omega) (by omega) (fun h => by cases h)
                  case measure => simp [intOf]; omega
              · have hnx := Scan.digit hsc.out hd (scan_on hd9 (decide_eq_false hm))
                have hcst : ((s[k].toNat - 48 : Nat) : Int) = (s[k].toNat : Int) - 48 := by omega
                rw [hcst] at hnx
                have hX : True := trivial
                clear hsc hpre hd hd' hcst
                by_cases hp : 0 ≤ P
                · have HF := Lib.hid ((hnx).1 hp)
                  clear hnx
                  go_wp2_with fail
                  go_round
                  case rel => exact ScanR.mk (k + 1) W (P + 1) (X * 10 + ((s[k].toNat : Int) - 48)) false (by omega) (by omega) (by go_num) (HT.out ▸ HF.out) (by omega) (by omega) (by omega) (by omega) (fun _ => by omega)
                  case measure => simp [intOf]; omega
                · have hp' : P < 0 := by omega
                  have HF := Lib.hid ((hnx).2 hp')
                  clear hnx hp
                  go_wp2_with fail
                  go_round
                  case rel => exact ScanR.mk (k + 1) (W + 1) P (X * 10 + ((s[k].toNat : Int) - 48)) false (by omega) (by omega) (by go_num) (HT.out ▸ HF.out) (by omega) (by omega) (by omega) (by omega) (fun _ => by omega)
                  case measure => simp [intOf]; omega
          · have hd' : isD s[k] = false := by simpa using hd
            by_cases hdot : s[k] = 46 ∧ P < 0 ∧ 0 < W
            · have HF := Lib.hid (hsc.out.dot hdot.2.1 hdot.2.2)
              have hpt := hdot.2.1
              have hwt := hdot.2.2
              have hce := hdot.1
              rw [hce] at HT
              have h46 : ((s[k].toNat : Int) == 46) = true := by rw [hce]; rfl
              have HX := Lib.hid hX
              clear hsc hpre hdot hd hd' hX hce
              go_wp2_with fail
              go_round
              case rel => exact ScanR.mk (k + 1) W 0 X O (by omega) (by omega) (by go_num) (HT.out ▸ HF.out) (by omega) (by omega) (by omega) (by omega) HX.out.out
              case measure => simp [intOf]; omega
            · have HE := Lib.hid (HRP.out _ _ (hsc.out.stuck hpre hd' hdot t HR.out q))
              have hno := isD_no hd'
              have HX := Lib.hid hX
              have hnd : ((s[k].toNat : Int) == 46) = true → P < 0 → 0 < W → False := fun h1 h2 h3 => hdot ⟨by rw [c46] at h1; exact of_decide_eq_true h1, h2, h3⟩
              clear hsc hpre hd hd' hX hdot
              by_cases h46 : ((s[k].toNat : Int) == 46) = true
              · have h48 : (s[k].toNat : Int) < 48 := by simp at h46; omega
                by_cases hp : P < 0
                · have hw0 : ¬ 0 < W := fun h3 => hnd h46 hp h3
                  clear hnd hno
                  go_wp2_with fail
                  go_ret2
                  exact ⟨HE.out, rfl⟩
                · clear hnd hno
                  go_wp2_with fail
                  go_ret2
                  exact ⟨HE.out, rfl⟩
              · have h46' : ((s[k].toNat : Int) == 46) = false := by simpa using h46
                clear hnd h46
                rcases hno with h | h
                · go_wp2_with fail
                  go_ret2
                  exact ⟨HE.out, rfl⟩
                · have h9 : ¬ (s[k].toNat : Int) < 48 := by omega
                  go_wp2_with fail
                  go_ret2
                  exact ⟨HE.out, rfl⟩
        · obtain rfl : k = s.size := by omega
          have hsc' : Hid (Scan r W P O X) := by
            have e : s.size - 0 = r.length := by rw [hS.len]; omega
            have := hsc.out
            rw [e, List.take_length] at this
            exact this
          clear hsc hk0 hk hlt
          have hL := fun p => Scan.last HR.out hsc'.out p
          have hD := hsc'.out.done
          have hOK := Lib.hid (fun (h : bad t q = false) => fine_of HR.out h)
          have hbl : bad t q = lastTest W P q (r.head? == some 48) false X O := by rw [hL q, HN.out]
          have HBL := Lib.hid hbl
          have HBAD := Lib.hid (fun (h : bad t q = true) => HRP.out _ _ (bad_form h))
          have HW1 : Hid (1 < W → ((0 : Nat) < s.size) ∧ ∀ h : 0 < s.size, (((s[0]'h).toNat : Int) == 48) = (r.head? == some 48)) := fun h1 => by
            have hlen := hS.len
            have hrl : 0 < r.length := by
              have h2 := hD.1
              have h3 := (whole_len r).2
              omega
            refine ⟨by omega, fun h => ?_⟩
            have hg := hS.get 0 hrl (by omega)
            have he : s[0]'h = r[0] := by rw [← hg]
            rw [he, List.head?_eq_getElem?, List.getElem?_eq_getElem hrl, Bool.eq_iff_iff]
            simp
            exact ⟨fun e => UInt8.toNat_inj.1 (by have : (48 : UInt8).toNat = 48 := rfl; omega), fun e => by rw [e]; rfl⟩
          have HD := Lib.hid hD
          have HX := Lib.hid hX.out
          clear hL hD hbl hX hsc' hS
          by_cases h1 : W = 0
          · have HE := Lib.hid (HBAD.out (by rw [HBL.out]; unfold lastTest; simp [h1]))
            subst h1
            clear HBAD HBL HW1 HD HX hOK
            go_wp2_with fail
            go_ret2
            exact ⟨HE.out, rfl⟩
          have e1 : (W == 0) = false := by simpa using h1
          by_cases h2 : P = 0
          · have HE := Lib.hid (HBAD.out (by rw [HBL.out]; unfold lastTest; simp [h2]))
            subst h2
            clear HBAD HBL HW1 HD HX hOK
            go_wp2_with fail
            go_ret2
            exact ⟨HE.out, rfl⟩
          have e2 : (P == 0) = false := by simpa using h2
          by_cases h3 : (q : Int) < P
          · have HE := Lib.hid (HBAD.out (by rw [HBL.out]; unfold lastTest; simp [h3]))
            clear HBAD HBL HW1 HD HX hOK h1 h2
            go_wp2_with fail
            go_ret2
            exact ⟨HE.out, rfl⟩
          have hq63 : (q : Int) ≤ 9 := hq9
          by_cases h4 : 1 < W
          · obtain ⟨hf1, hf2⟩ := HW1.out h4
            have hf3 := hf2 hf1
            by_cases hz : (r.head? == some 48) = true
            · rw [hz] at hf3
              have HE := Lib.hid (HBAD.out (by rw [HBL.out]; unfold lastTest; rw [hz]; simp [h4]))
              clear HBAD HBL HW1 HD HX hOK h1 h2 hf2 hz
              go_wp2_with fail
              go_ret2
              exact ⟨HE.out, rfl⟩
            · have hz' : (r.head? == some 48) = false := by simpa using hz
              rw [hz'] at hf3
              have HZ : Hid ((decide (1 < W) && (r.head? == some 48)) = false) := by unfold Hid; rw [hz']; simp
              clear HW1 h1 h2 hf2 hz hz'
              have hg : bad t q = false := by
                rw [HBL.out]
                unfold lastTest
                rw [HZ.out, decide_eq_false (by intro h; rw [h] at e1; simp at e1), decide_eq_false (by intro h; rw [h] at e2; simp at e2), decide_eq_false h3]
                rfl
              have HOK := Lib.hid (hOK.out hg)
              clear HBAD HBL hOK HZ hg
              obtain ⟨m, hm⟩ : ∃ m : Nat, m = (partT r).length := ⟨_, rfl⟩
              have hPm := HD.out.2.2.2.2.1
              rw [← hm] at hPm
              have HA := Lib.hid HD.out.2.2.2.2.2
              have HM := Lib.hid hm
              clear HD hm
              by_cases hP : P < 0
              · rw [if_pos hP] at hPm
                obtain rfl : m = 0 := by omega
                clear hPm
                go_upto_block 0 with fail
                go_loop [11, 12, 14] (MulR q 0 (val (wholeT r ++ partT r))) (fun _ _ n => q - (intOf n).toNat)
                case atStart => exact MulR.mk 0 X _ (Nat.le_refl _) (by omega) rfl (by rw [Nat.sub_self, Nat.pow_zero, Nat.mul_one]; exact HA.out) (fun h => HX.out (by first | exact h | trivial))
                case round =>
                  clear HA HX
                  obtain ⟨k, Y, B, hk1, hk2, rfl, rfl, rfl, ha, hY⟩ := hrel
                  by_cases hlt : k < q
                  · have hpw : Hid (val (wholeT r ++ partT r) * 10 ^ (k + 1 - 0) = val (wholeT r ++ partT r) * 10 ^ (k - 0) * 10) := by
                      unfold Hid
                      rw [show k + 1 - 0 = (k - 0) + 1 by omega, Nat.pow_succ, Nat.mul_assoc]
                    cases B with
                    | true =>
                      have HT := Lib.hid (acc_ten_over ha.out)
                      clear hY ha
                      go_wp2_with fail
                      go_round
                      case rel => exact MulR.mk (k + 1) Y true (by omega) (by omega) (by go_num) (by rw [hpw.out]; exact HT.out) (fun h => by cases h)
                      case measure => simp [intOf]; omega
                    | false =>
                      have hYb := hY.out rfl
                      by_cases hm10 : (461168601842738790 : Int) < Y
                      · have HT := Lib.hid ((acc_ten ha.out).1 (decide_eq_true hm10))
                        clear hY ha
                        go_wp2_with fail
                        go_round
                        case rel => exact MulR.mk (k + 1) Y true (by omega) (by omega) (by go_num) (by rw [hpw.out]; exact HT.out) (fun h => by cases h)
                        case measure => simp [intOf]; omega
                      · have HT := Lib.hid ((acc_ten ha.out).2 (decide_eq_false hm10))
                        clear hY ha
                        go_wp2_with fail
                        go_round
                        case rel => exact MulR.mk (k + 1) (Y * 10) false (by omega) (by omega) (by go_num) (by rw [hpw.out]; exact HT.out) (fun _ => by omega)
                        case measure => simp [intOf]; omega
                  · obtain rfl : k = q := by omega
                    have hamt : val (wholeT r ++ partT r) * 10 ^ (k - 0) = amt r k := by unfold amt; rw [← HM.out]
                    have hE := acc_end ha.out
                    rw [hamt] at hE
                    have HOK2 := HOK.out
                    clear hamt ha hlt HOK HM
                    generalize amt r k = V at *
                    cases B with
                    | true =>
                      have HV : DecM.Max < V := by have := hE.1; simpa using this
                      rw [if_pos HV] at HOK2
                      have HE := Lib.hid (HRP.out _ _ HOK2)
                      clear HV HOK2 hE hY
                      go_wp2_with fail
                      go_ret2
                      exact ⟨HE.out, rfl⟩
                    | false =>
                      by_cases hov : (4611686018427387904 : Int) < Y
                      · have HV : DecM.Max < V := by
                          have h9 := hE.1
                          have : decide ((DecM.Max : Int) < Y) = true := decide_eq_true (by unfold DecM.Max; exact hov)
                          rw [this] at h9
                          simpa using h9
                        rw [if_pos HV] at HOK2
                        have HE := Lib.hid (HRP.out _ _ HOK2)
                        clear HV HOK2 hE hY
                        go_wp2_with fail
                        go_ret2
                        exact ⟨HE.out, rfl⟩
                      · have h8 : decide ((DecM.Max : Int) < Y) = false := decide_eq_false (by unfold DecM.Max; exact hov)
                        have hYV : Y = V := hE.2 (by rw [h8]; rfl)
                        have HV : ¬ DecM.Max < V := by
                          have h9 := hE.1
                          rw [h8] at h9
                          simpa using h9.symm
                        rw [if_neg HV, HN.out] at HOK2
                        have HE := Lib.hid (HRP.out _ _ HOK2)
                        have hYb := hY.out rfl
                        subst hYV
                        clear HV HOK2 hE hY h8
                        go_wp2_with fail
                        go_ret2
                        exact ⟨HE.out, rfl⟩
              · rw [if_neg hP] at hPm
                obtain rfl : P = m := hPm
                go_upto_block 0 with fail
                go_loop [11, 12, 14] (MulR q m (val (wholeT r ++ partT r))) (fun _ _ n => q - (intOf n).toNat)
                case atStart => exact MulR.mk m X _ (Nat.le_refl _) (by omega) rfl (by rw [Nat.sub_self, Nat.pow_zero, Nat.mul_one]; exact HA.out) (fun h => HX.out (by first | exact h | trivial))
                case round =>
                  clear HA HX
                  obtain ⟨k, Y, B, hk1, hk2, rfl, rfl, rfl, ha, hY⟩ := hrel
                  by_cases hlt : k < q
                  · have hpw : Hid (val (wholeT r ++ partT r) * 10 ^ (k + 1 - m) = val (wholeT r ++ partT r) * 10 ^ (k - m) * 10) := by
                      unfold Hid
                      rw [show k + 1 - m = (k - m) + 1 by omega, Nat.pow_succ, Nat.mul_assoc]
                    cases B with
                    | true =>
                      have HT := Lib.hid (acc_ten_over ha.out)
                      clear hY ha
                      go_wp2_with fail
                      go_round
                      case rel => exact MulR.mk (k + 1) Y true (by omega) (by omega) (by go_num) (by rw [hpw.out]; exact HT.out) (fun h => by cases h)
                      case measure => simp [intOf]; omega
                    | false =>
                      have hYb := hY.out rfl
                      by_cases hm10 : (461168601842738790 : Int) < Y
                      · have HT := Lib.hid ((acc_ten ha.out).1 (decide_eq_true hm10))
                        clear hY ha
                        go_wp2_with fail
                        go_round
                        case rel => exact MulR.mk (k + 1) Y true (by omega) (by omega) (by go_num) (by rw [hpw.out]; exact HT.out) (fun h => by cases h)
                        case measure => simp [intOf]; omega
                      · have HT := Lib.hid ((acc_ten ha.out).2 (decide_eq_false hm10))
                        clear hY ha
                        go_wp2_with fail
                        go_round
                        case rel => exact MulR.mk (k + 1) (Y * 10) false (by omega) (by omega) (by go_num) (by rw [hpw.out]; exact HT.out) (fun _ => by omega)
                        case measure => simp [intOf]; omega
                  · obtain rfl : k = q := by omega
                    have hamt : val (wholeT r ++ partT r) * 10 ^ (k - m) = amt r k := by unfold amt; rw [← HM.out]
                    have hE := acc_end ha.out
                    rw [hamt] at hE
                    have HOK2 := HOK.out
                    clear hamt ha hlt HOK HM
                    generalize amt r k = V at *
                    cases B with
                    | true =>
                      have HV : DecM.Max < V := by have := hE.1; simpa using this
                      rw [if_pos HV] at HOK2
                      have HE := Lib.hid (HRP.out _ _ HOK2)
                      clear HV HOK2 hE hY
                      go_wp2_with fail
                      go_ret2
                      exact ⟨HE.out, rfl⟩
                    | false =>
                      by_cases hov : (4611686018427387904 : Int) < Y
                      · have HV : DecM.Max < V := by
                          have h9 := hE.1
                          have : decide ((DecM.Max : Int) < Y) = true := decide_eq_true (by unfold DecM.Max; exact hov)
                          rw [this] at h9
                          simpa using h9
                        rw [if_pos HV] at HOK2
                        have HE := Lib.hid (HRP.out _ _ HOK2)
                        clear HV HOK2 hE hY
                        go_wp2_with fail
                        go_ret2
                        exact ⟨HE.out, rfl⟩
                      · have h8 : decide ((DecM.Max : Int) < Y) = false := decide_eq_false (by unfold DecM.Max; exact hov)
                        have hYV : Y = V := hE.2 (by rw [h8]; rfl)
                        have HV : ¬ DecM.Max < V := by
                          have h9 := hE.1
                          rw [h8] at h9
                          simpa using h9.symm
                        rw [if_neg HV, HN.out] at HOK2
                        have HE := Lib.hid (HRP.out _ _ HOK2)
                        have hYb := hY.out rfl
                        subst hYV
                        clear HV HOK2 hE hY h8
                        go_wp2_with fail
                        go_ret2
                        exact ⟨HE.out, rfl⟩
          · have HZ : Hid ((decide (1 < W) && (r.head? == some 48)) = false) := by unfold Hid; rw [decide_eq_false h4]; rfl
            clear HW1 h1 h2
            have hg : bad t q = false := by
              rw [HBL.out]
              unfold lastTest
              rw [HZ.out, decide_eq_false (by intro h; rw [h] at e1; simp at e1), decide_eq_false (by intro h; rw [h] at e2; simp at e2), decide_eq_false h3]
              rfl
            have HOK := Lib.hid (hOK.out hg)
            clear HBAD HBL hOK HZ hg
            obtain ⟨m, hm⟩ : ∃ m : Nat, m = (partT r).length := ⟨_, rfl⟩
            have hPm := HD.out.2.2.2.2.1
            rw [← hm] at hPm
            have HA := Lib.hid HD.out.2.2.2.2.2
            have HM := Lib.hid hm
            clear HD hm
            by_cases hP : P < 0
            · rw [if_pos hP] at hPm
              obtain rfl : m = 0 := by omega
              clear hPm
              go_upto_block 0 with fail
              go_loop [11, 12, 14] (MulR q 0 (val (wholeT r ++ partT r))) (fun _ _ n => q - (intOf n).toNat)
              case atStart => exact MulR.mk 0 X _ (Nat.le_refl _) (by omega) rfl (by rw [Nat.sub_self, Nat.pow_zero, Nat.mul_one]; exact HA.out) (fun h => HX.out (by first | exact h | trivial))
              case round =>
                clear HA HX
                obtain ⟨k, Y, B, hk1, hk2, rfl, rfl, rfl, ha, hY⟩ := hrel
                by_cases hlt : k < q
                · have hpw : Hid (val (wholeT r ++ partT r) * 10 ^ (k + 1 - 0) = val (wholeT r ++ partT r) * 10 ^ (k - 0) * 10) := by
                    unfold Hid
                    rw [show k + 1 - 0 = (k - 0) + 1 by omega, Nat.pow_succ, Nat.mul_assoc]
                  cases B with
                  | true =>
                    have HT := Lib.hid (acc_ten_over ha.out)
                    clear hY ha
                    go_wp2_with fail
                    go_round
                    case rel => exact MulR.mk (k + 1) Y true (by omega) (by omega) (by go_num) (by rw [hpw.out]; exact HT.out) (fun h => by cases h)
                    case measure => simp [intOf]; omega
                  | false =>
                    have hYb := hY.out rfl
                    by_cases hm10 : (461168601842738790 : Int) < Y
                    · have HT := Lib.hid ((acc_ten ha.out).1 (decide_eq_true hm10))
                      clear hY ha
                      go_wp2_with fail
                      go_round
                      case rel => exact MulR.mk (k + 1) Y true (by omega) (by omega) (by go_num) (by rw [hpw.out]; exact HT.out) (fun h => by cases h)
                      case measure => simp [intOf]; omega
                    · have HT := Lib.hid ((acc_ten ha.out).2 (decide_eq_false hm10))
                      clear hY ha
                      go_wp2_with fail
                      go_round
                      case rel => exact MulR.mk (k + 1) (Y * 10) false (by omega) (by omega) (by go_num) (by rw [hpw.out]; exact HT.out) (fun _ => by omega)
                      case measure => simp [intOf]; omega
                · obtain rfl : k = q := by omega
                  have hamt : val (wholeT r ++ partT r) * 10 ^ (k - 0) = amt r k := by unfold amt; rw [← HM.out]
                  have hE := acc_end ha.out
                  rw [hamt] at hE
                  have HOK2 := HOK.out
                  clear hamt ha hlt HOK HM
                  generalize amt r k = V at *
                  cases B with
                  | true =>
                    have HV : DecM.Max < V := by have := hE.1; simpa using this
                    rw [if_pos HV] at HOK2
                    have HE := Lib.hid (HRP.out _ _ HOK2)
                    clear HV HOK2 hE hY
                    go_wp2_with fail
                    go_ret2
                    exact ⟨HE.out, rfl⟩
                  | false =>
                    by_cases hov : (4611686018427387904 : Int) < Y
                    · have HV : DecM.Max < V := by
                        have h9 := hE.1
                        have : decide ((DecM.Max : Int) < Y) = true := decide_eq_true (by unfold DecM.Max; exact hov)
                        rw [this] at h9
                        simpa using h9
                      rw [if_pos HV] at HOK2
                      have HE := Lib.hid (HRP.out _ _ HOK2)
                      clear HV HOK2 hE hY
                      go_wp2_with fail
                      go_ret2
                      exact ⟨HE.out, rfl⟩
                    · have h8 : decide ((DecM.Max : Int) < Y) = false := decide_eq_false (by unfold DecM.Max; exact hov)
                      have hYV : Y = V := hE.2 (by rw [h8]; rfl)
                      have HV : ¬ DecM.Max < V := by
                        have h9 := hE.1
                        rw [h8] at h9
                        simpa using h9.symm
                      rw [if_neg HV, HN.out] at HOK2
                      have HE := Lib.hid (HRP.out _ _ HOK2)
                      have hYb := hY.out rfl
                      subst hYV
                      clear HV HOK2 hE hY h8
                      go_wp2_with fail
                      go_ret2
                      exact ⟨HE.out, rfl⟩
            · rw [if_neg hP] at hPm
              obtain rfl : P = m := hPm
              go_upto_block 0 with fail
              go_loop [11, 12, 14] (MulR q m (val (wholeT r ++ partT r))) (fun _ _ n => q - (intOf n).toNat)
              case atStart => exact MulR.mk m X _ (Nat.le_refl _) (by omega) rfl (by rw [Nat.sub_self, Nat.pow_zero, Nat.mul_one]; exact HA.out) (fun h => HX.out (by first | exact h | trivial))
              case round =>
                clear HA HX
                obtain ⟨k, Y, B, hk1, hk2, rfl, rfl, rfl, ha, hY⟩ := hrel
                by_cases hlt : k < q
                · have hpw : Hid (val (wholeT r ++ partT r) * 10 ^ (k + 1 - m) = val (wholeT r ++ partT r) * 10 ^ (k - m) * 10) := by
                    unfold Hid
                    rw [show k + 1 - m = (k - m) + 1 by omega, Nat.pow_succ, Nat.mul_assoc]
                  cases B with
                  | true =>
                    have HT := Lib.hid (acc_ten_over ha.out)
                    clear hY ha
                    go_wp2_with fail
                    go_round
                    case rel => exact MulR.mk (k + 1) Y true (by omega) (by omega) (by go_num) (by rw [hpw.out]; exact HT.out) (fun h => by cases h)
                    case measure => simp [intOf]; omega
                  | false =>
                    have hYb := hY.out rfl
                    by_cases hm10 : (461168601842738790 : Int) < Y
                    · have HT := Lib.hid ((acc_ten ha.out).1 (decide_eq_true hm10))
                      clear hY ha
                      go_wp2_with fail
                      go_round
                      case rel => exact MulR.mk (k + 1) Y true (by omega) (by omega) (by go_num) (by rw [hpw.out]; exact HT.out) (fun h => by cases h)
                      case measure => simp [intOf]; omega
                    · have HT := Lib.hid ((acc_ten ha.out).2 (decide_eq_false hm10))
                      clear hY ha
                      go_wp2_with fail
                      go_round
                      case rel => exact MulR.mk (k + 1) (Y * 10) false (by omega) (by omega) (by go_num) (by rw [hpw.out]; exact HT.out) (fun _ => by omega)
                      case measure => simp [intOf]; omega
                · obtain rfl : k = q := by omega
                  have hamt : val (wholeT r ++ partT r) * 10 ^ (k - m) = amt r k := by unfold amt; rw [← HM.out]
                  have hE := acc_end ha.out
                  rw [hamt] at hE
                  have HOK2 := HOK.out
                  clear hamt ha hlt HOK HM
                  generalize amt r k = V at *
                  cases B with
                  | true =>
                    have HV : DecM.Max < V := by have := hE.1; simpa using this
                    rw [if_pos HV] at HOK2
                    have HE := Lib.hid (HRP.out _ _ HOK2)
                    clear HV HOK2 hE hY
                    go_wp2_with fail
                    go_ret2
                    exact ⟨HE.out, rfl⟩
                  | false =>
                    by_cases hov : (4611686018427387904 : Int) < Y
                    · have HV : DecM.Max < V := by
                        have h9 := hE.1
                        have : decide ((DecM.Max : Int) < Y) = true := decide_eq_true (by unfold DecM.Max; exact hov)
                        rw [this] at h9
                        simpa using h9
                      rw [if_pos HV] at HOK2
                      have HE := Lib.hid (HRP.out _ _ HOK2)
                      clear HV HOK2 hE hY
                      go_wp2_with fail
                      go_ret2
                      exact ⟨HE.out, rfl⟩
                    · have h8 : decide ((DecM.Max : Int) < Y) = false := decide_eq_false (by unfold DecM.Max; exact hov)
                      have hYV : Y = V := hE.2 (by rw [h8]; rfl)
                      have HV : ¬ DecM.Max < V := by
                        have h9 := hE.1
                        rw [h8] at h9
                        simpa using h9.symm
                      rw [if_neg HV, HN.out] at HOK2
                      have HE := Lib.hid (HRP.out _ _ HOK2)
                      have hYb := hY.out rfl
                      subst hYV
                      clear HV HOK2 hE hY h8
                      go_wp2_with fail
                      go_ret2
                      exact ⟨HE.out, rfl⟩
    · have hz : s.size = 0 := by omega
      clear hneg ht hr hn hn'
      go_wp2_with fail
      have HZ0 := Lib.hid hz
      clear hz h0
      go_loop [6, 9, 10, 11, 12] (ScanR s r 0) (fun a _ _ _ _ => s.size - (intOf a).toNat)
      case atStart => exact ScanR.mk 0 0 (-1) 0 false (Nat.le_refl _) (by have := hS.len; omega) rfl (by rw [Nat.sub_self]; exact Scan.nil) (by omega) (by omega) (by omega) (by omega) (fun _ => by omega)
      case round =>
        obtain ⟨k, W, P, X, O, hk0, hk, rfl, rfl, rfl, rfl, rfl, hsc, hW0, hW1, hP0, hP1, hX⟩ := hrel
        by_cases hlt : k < s.size
        · have hlen := hS.len
          have hjr : k - 0 < r.length := by omega
          have hget := hS.get (k - 0) hjr (by omega)
          have htk := take_snoc8 r (k - 0) hjr
          have hpre : r.take (k - 0 + 1) <+: r := List.take_prefix _ _
          rw [htk] at hpre
          rw [← hget] at htk hpre
          have hidx : s[0 + (k - 0)]'(by omega) = s[k] := by congr 1; omega
          rw [hidx] at htk hpre
          rw [show k - 0 + 1 = k + 1 - 0 by omega] at htk
          have HT := Lib.hid htk.symm
          have hc256 : s[k].toNat < 256 := s[k].toNat_lt
          clear htk hget hidx hlen
          by_cases hd : isD s[k] = true
          · have hd' := isD_iff.1 hd
            have h48 : (48 : Int) ≤ s[k].toNat := by omega
            have h57 : (s[k].toNat : Int) ≤ 57 := by omega
            have h46 : ((s[k].toNat : Int) == 46) = false := by rw [Bool.eq_false_iff]; simp; omega
            have hd9 : s[k].toNat - 48 ≤ 9 := by omega
            cases O with
            | true =>
              have hnx := Scan.digit hsc.out hd (scan_ov (x := X) X)
              have hX : True := trivial
              clear hsc hpre hd hd'
              by_cases hp : 0 ≤ P
              · have HF := Lib.hid ((hnx).1 hp)
                clear hnx
                go_wp2_with fail
                go_round
                case rel => exact ScanR.mk (k + 1) W (P + 1) X true (by omega) (by omega) (by go_num) (HT.out ▸ HF.out) (by omega) (by omega) (by omega) (by omega) (fun h => by cases h)
                case measure => simp [intOf]; omega
              · have hp' : P < 0 := by omega
                have HF := Lib.hid ((hnx).2 hp')
                clear hnx hp
                go_wp2_with fail
                go_round
                case rel => exact ScanR.mk (k + 1) (W + 1) P X true (by omega) (by omega) (by go_num) (HT.out ▸ HF.out) (by omega) (by omega) (by omega) (by omega) (fun h => by cases h)
                case measure => simp [intOf]; omega
            | false =>
              have hXb := hX.out rfl
              by_cases hm : (461168601842738790 : Int) < X
              · have hnx := Scan.digit hsc.out hd (scan_to hd9 (decide_eq_true hm) X)
                have hX : True := trivial
                clear hsc hpre hd hd'
                by_cases hp : 0 ≤ P
                · have HF := Lib.hid ((hnx).1 hp)
                  clear hnx
                  go_wp2_with fail
                  go_round
                  case rel => exact ScanR.mk (k + 1) W (P + 1) X true (by omega) (by omega) (by go_num) (HT.out ▸ HF.out) (by omega) (by omega) (by omega) (by omega) (fun h => by cases h)
                  case measure => simp [intOf]; omega
                · have hp' : P < 0 := by omega
                  have HF := Lib.hid ((hnx).2 hp')
                  clear hnx hp
                  go_wp2_with fail
                  go_round
                  case rel => exact ScanR.mk (k + 1) (W + 1) P X true (by omega) (by omega) (by go_num) (HT.out ▸ HF.out) (by omega) (by omega) (by omega) (by omega) (fun h => by cases h)
                  case measure => simp [intOf]; omega
              · have hnx := Scan.digit hsc.out hd (scan_on hd9 (decide_eq_false hm))
                have hcst : ((s[k].toNat - 48 : Nat) : Int) = (s[k].toNat : Int) - 48 := by omega
                rw [hcst] at hnx
                have hX : True := trivial
                clear hsc hpre hd hd' hcst
                by_cases hp : 0 ≤ P
                · have HF := Lib.hid ((hnx).1 hp)
                  clear hnx
                  go_wp2_with fail
                  go_round
                  case rel => exact ScanR.mk (k + 1) W (P + 1) (X * 10 + ((s[k].toNat : Int) - 48)) false (by omega) (by omega) (by go_num) (HT.out ▸ HF.out) (by omega) (by omega) (by omega) (by omega) (fun _ => by omega)
                  case measure => simp [intOf]; omega
                · have hp' : P < 0 := by omega
                  have HF := Lib.hid ((hnx).2 hp')
                  clear hnx hp
                  go_wp2_with fail
                  go_round
                  case rel => exact ScanR.mk (k + 1) (W + 1) P (X * 10 + ((s[k].toNat : Int) - 48)) false (by omega) (by omega) (by go_num) (HT.out ▸ HF.out) (by omega) (by omega) (by omega) (by omega) (fun _ => by omega)
                  case measure => simp [intOf]; omega
          · have hd' : isD s[k] = false := by simpa using hd
            by_cases hdot : s[k] = 46 ∧ P < 0 ∧ 0 < W
            · have HF := Lib.hid (hsc.out.dot hdot.2.1 hdot.2.2)
              have hpt := hdot.2.1
              have hwt := hdot.2.2
              have hce := hdot.1
              rw [hce] at HT
              have h46 : ((s[k].toNat : Int) == 46) = true := by rw [hce]; rfl
              have HX := Lib.hid hX
              clear hsc hpre hdot hd hd' hX hce
              go_wp2_with fail
              go_round
              case rel => exact ScanR.mk (k + 1) W 0 X O (by omega) (by omega) (by go_num) (HT.out ▸ HF.out) (by omega) (by omega) (by omega) (by omega) HX.out.out
              case measure => simp [intOf]; omega
            · have HE := Lib.hid (HRP.out _ _ (hsc.out.stuck hpre hd' hdot t HR.out q))
              have hno := isD_no hd'
              have HX := Lib.hid hX
              have hnd : ((s[k].toNat : Int) == 46) = true → P < 0 → 0 < W → False := fun h1 h2 h3 => hdot ⟨by rw [c46] at h1; exact of_decide_eq_true h1, h2, h3⟩
              clear hsc hpre hd hd' hX hdot
              by_cases h46 : ((s[k].toNat : Int) == 46) = true
              · have h48 : (s[k].toNat : Int) < 48 := by simp at h46; omega
                by_cases hp : P < 0
                · have hw0 : ¬ 0 < W := fun h3 => hnd h46 hp h3
                  clear hnd hno
                  go_wp2_with fail
                  go_ret2
                  exact ⟨HE.out, rfl⟩
                · clear hnd hno
                  go_wp2_with fail
                  go_ret2
                  exact ⟨HE.out, rfl⟩
              · have h46' : ((s[k].toNat : Int) == 46) = false := by simpa using h46
                clear hnd h46
                rcases hno with h | h
                · go_wp2_with fail
                  go_ret2
                  exact ⟨HE.out, rfl⟩
                · have h9 : ¬ (s[k].toNat : Int) < 48 := by omega
                  go_wp2_with fail
                  go_ret2
                  exact ⟨HE.out, rfl⟩
        · obtain rfl : k = s.size := by omega
          have hsc' : Hid (Scan r W P O X) := by
            have e : s.size - 0 = r.length := by rw [hS.len]; omega
            have := hsc.out
            rw [e, List.take_length] at this
            exact this
          clear hsc hk0 hk hlt
          have hL := fun p => Scan.last HR.out hsc'.out p
          have hD := hsc'.out.done
          have hOK := Lib.hid (fun (h : bad t q = false) => fine_of HR.out h)
          have hbl : bad t q = lastTest W P q (r.head? == some 48) false X O := by rw [hL q, HN.out]
          have HBL := Lib.hid hbl
          have HBAD := Lib.hid (fun (h : bad t q = true) => HRP.out _ _ (bad_form h))
          have HW1 : Hid (1 < W → ((0 : Nat) < s.size) ∧ ∀ h : 0 < s.size, (((s[0]'h).toNat : Int) == 48) = (r.head? == some 48)) := fun h1 => by
            have hlen := hS.len
            have hrl : 0 < r.length := by
              have h2 := hD.1
              have h3 := (whole_len r).2
              omega
            refine ⟨by omega, fun h => ?_⟩
            have hg := hS.get 0 hrl (by omega)
            have he : s[0]'h = r[0] := by rw [← hg]
            rw [he, List.head?_eq_getElem?, List.getElem?_eq_getElem hrl, Bool.eq_iff_iff]
            simp
            exact ⟨fun e => UInt8.toNat_inj.1 (by have : (48 : UInt8).toNat = 48 := rfl; omega), fun e => by rw [e]; rfl⟩
          have HD := Lib.hid hD
          have HX := Lib.hid hX.out
          clear hL hD hbl hX hsc' hS
          by_cases h1 : W = 0
          · have HE := Lib.hid (HBAD.out (by rw [HBL.out]; unfold lastTest; simp [h1]))
            subst h1
            clear HBAD HBL HW1 HD HX hOK
            go_wp2_with fail
            go_ret2
            exact ⟨HE.out, rfl⟩
          have e1 : (W == 0) = false := by simpa using h1
          by_cases h2 : P = 0
          · have HE := Lib.hid (HBAD.out (by rw [HBL.out]; unfold lastTest; simp [h2]))
            subst h2
            clear HBAD HBL HW1 HD HX hOK
            go_wp2_with fail
            go_ret2
            exact ⟨HE.out, rfl⟩
          have e2 : (P == 0) = false := by simpa using h2
          by_cases h3 : (q : Int) < P
          · have HE := Lib.hid (HBAD.out (by rw [HBL.out]; unfold lastTest; simp [h3]))
            clear HBAD HBL HW1 HD HX hOK h1 h2
            go_wp2_with fail
            go_ret2
            exact ⟨HE.out, rfl⟩
          have hq63 : (q : Int) ≤ 9 := hq9
          by_cases h4 : 1 < W
          · obtain ⟨hf1, hf2⟩ := HW1.out h4
            have hf3 := hf2 hf1
            by_cases hz : (r.head? == some 48) = true
            · rw [hz] at hf3
              have HE := Lib.hid (HBAD.out (by rw [HBL.out]; unfold lastTest; rw [hz]; simp [h4]))
              clear HBAD HBL HW1 HD HX hOK h1 h2 hf2 hz
              go_wp2_with fail
              go_ret2
              exact ⟨HE.out, rfl⟩
            · have hz' : (r.head? == some 48) = false := by simpa using hz
              rw [hz'] at hf3
              have HZ : Hid ((decide (1 < W) && (r.head? == some 48)) = false) := by unfold Hid; rw [hz']; simp
              clear HW1 h1 h2 hf2 hz hz'
              have hg : bad t q = false := by
                rw [HBL.out]
                unfold lastTest
                rw [HZ.out, decide_eq_false (by intro h; rw [h] at e1; simp at e1), decide_eq_false (by intro h; rw [h] at e2; simp at e2), decide_eq_false h3]
                rfl
              have HOK := Lib.hid (hOK.out hg)
              clear HBAD HBL hOK HZ hg
              obtain ⟨m, hm⟩ : ∃ m : Nat, m = (partT r).length := ⟨_, rfl⟩
              have hPm := HD.out.2.2.2.2.1
              rw [← hm] at hPm
              have HA := Lib.hid HD.out.2.2.2.2.2
              have HM := Lib.hid hm
              clear HD hm
              by_cases hP : P < 0
              · rw [if_pos hP] at hPm
                obtain rfl : m = 0 := by omega
                clear hPm
                go_upto_block 0 with fail
                go_loop [11, 12, 14] (MulR q 0 (val (wholeT r ++ partT r))) (fun _ _ n => q - (intOf n).toNat)
                case atStart => exact MulR.mk 0 X _ (Nat.le_refl _) (by omega) rfl (by rw [Nat.sub_self, Nat.pow_zero, Nat.mul_one]; exact HA.out) (fun h => HX.out (by first | exact h | trivial))
                case round =>
                  clear HA HX
                  obtain ⟨k, Y, B, hk1, hk2, rfl, rfl, rfl, ha, hY⟩ := hrel
                  by_cases hlt : k < q
                  · have hpw : Hid (val (wholeT r ++ partT r) * 10 ^ (k + 1 - 0) = val (wholeT r ++ partT r) * 10 ^ (k - 0) * 10) := by
                      unfold Hid
                      rw [show k + 1 - 0 = (k - 0) + 1 by omega, Nat.pow_succ, Nat.mul_assoc]
                    cases B with
                    | true =>
                      have HT := Lib.hid (acc_ten_over ha.out)
                      clear hY ha
                      go_wp2_with fail
                      go_round
                      case rel => exact MulR.mk (k + 1) Y true (by omega) (by omega) (by go_num) (by rw [hpw.out]; exact HT.out) (fun h => by cases h)
                      case measure => simp [intOf]; omega
                    | false =>
                      have hYb := hY.out rfl
                      by_cases hm10 : (461168601842738790 : Int) < Y
                      · have HT := Lib.hid ((acc_ten ha.out).1 (decide_eq_true hm10))
                        clear hY ha
                        go_wp2_with fail
                        go_round
                        case rel => exact MulR.mk (k + 1) Y true (by omega) (by omega) (by go_num) (by rw [hpw.out]; exact HT.out) (fun h => by cases h)
                        case measure => simp [intOf]; omega
                      · have HT := Lib.hid ((acc_ten ha.out).2 (decide_eq_false hm10))
                        clear hY ha
                        go_wp2_with fail
                        go_round
                        case rel => exact MulR.mk (k + 1) (Y * 10) false (by omega) (by omega) (by go_num) (by rw [hpw.out]; exact HT.out) (fun _ => by omega)
                        case measure => simp [intOf]; omega
                  · obtain rfl : k = q := by omega
                    have hamt : val (wholeT r ++ partT r) * 10 ^ (k - 0) = amt r k := by unfold amt; rw [← HM.out]
                    have hE := acc_end ha.out
                    rw [hamt] at hE
                    have HOK2 := HOK.out
                    clear hamt ha hlt HOK HM
                    generalize amt r k = V at *
                    cases B with
                    | true =>
                      have HV : DecM.Max < V := by have := hE.1; simpa using this
                      rw [if_pos HV] at HOK2
                      have HE := Lib.hid (HRP.out _ _ HOK2)
                      clear HV HOK2 hE hY
                      go_wp2_with fail
                      go_ret2
                      exact ⟨HE.out, rfl⟩
                    | false =>
                      by_cases hov : (4611686018427387904 : Int) < Y
                      · have HV : DecM.Max < V := by
                          have h9 := hE.1
                          have : decide ((DecM.Max : Int) < Y) = true := decide_eq_true (by unfold DecM.Max; exact hov)
                          rw [this] at h9
                          simpa using h9
                        rw [if_pos HV] at HOK2
                        have HE := Lib.hid (HRP.out _ _ HOK2)
                        clear HV HOK2 hE hY
                        go_wp2_with fail
                        go_ret2
                        exact ⟨HE.out, rfl⟩
                      · have h8 : decide ((DecM.Max : Int) < Y) = false := decide_eq_false (by unfold DecM.Max; exact hov)
                        have hYV : Y = V := hE.2 (by rw [h8]; rfl)
                        have HV : ¬ DecM.Max < V := by
                          have h9 := hE.1
                          rw [h8] at h9
                          simpa using h9.symm
                        rw [if_neg HV, HN.out] at HOK2
                        have HE := Lib.hid (HRP.out _ _ HOK2)
                        have hYb := hY.out rfl
                        subst hYV
                        clear HV HOK2 hE hY h8
                        go_wp2_with fail
                        go_ret2
                        exact ⟨HE.out, rfl⟩
              · rw [if_neg hP] at hPm
                obtain rfl : P = m := hPm
                go_upto_block 0 with fail
                go_loop [11, 12, 14] (MulR q m (val (wholeT r ++ partT r))) (fun _ _ n => q - (intOf n).toNat)
                case atStart => exact MulR.mk m X _ (Nat.le_refl _) (by omega) rfl (by rw [Nat.sub_self, Nat.pow_zero, Nat.mul_one]; exact HA.out) (fun h => HX.out (by first | exact h | trivial))
                case round =>
                  clear HA HX
                  obtain ⟨k, Y, B, hk1, hk2, rfl, rfl, rfl, ha, hY⟩ := hrel
                  by_cases hlt : k < q
                  · have hpw : Hid (val (wholeT r ++ partT r) * 10 ^ (k + 1 - m) = val (wholeT r ++ partT r) * 10 ^ (k - m) * 10) := by
                      unfold Hid
                      rw [show k + 1 - m = (k - m) + 1 by omega, Nat.pow_succ, Nat.mul_assoc]
                    cases B with
                    | true =>
                      have HT := Lib.hid (acc_ten_over ha.out)
                      clear hY ha
                      go_wp2_with fail
                      go_round
                      case rel => exact MulR.mk (k + 1) Y true (by omega) (by omega) (by go_num) (by rw [hpw.out]; exact HT.out) (fun h => by cases h)
                      case measure => simp [intOf]; omega
                    | false =>
                      have hYb := hY.out rfl
                      by_cases hm10 : (461168601842738790 : Int) < Y
                      · have HT := Lib.hid ((acc_ten ha.out).1 (decide_eq_true hm10))
                        clear hY ha
                        go_wp2_with fail
                        go_round
                        case rel => exact MulR.mk (k + 1) Y true (by omega) (by omega) (by go_num) (by rw [hpw.out]; exact HT.out) (fun h => by cases h)
                        case measure => simp [intOf]; omega
                      · have HT := Lib.hid ((acc_ten ha.out).2 (decide_eq_false hm10))
                        clear hY ha
                        go_wp2_with fail
                        go_round
                        case rel => exact MulR.mk (k + 1) (Y * 10) false (by omega) (by omega) (by go_num) (by rw [hpw.out]; exact HT.out) (fun _ => by omega)
                        case measure => simp [intOf]; omega
                  · obtain rfl : k = q := by omega
                    have hamt : val (wholeT r ++ partT r) * 10 ^ (k - m) = amt r k := by unfold amt; rw [← HM.out]
                    have hE := acc_end ha.out
                    rw [hamt] at hE
                    have HOK2 := HOK.out
                    clear hamt ha hlt HOK HM
                    generalize amt r k = V at *
                    cases B with
                    | true =>
                      have HV : DecM.Max < V := by have := hE.1; simpa using this
                      rw [if_pos HV] at HOK2
                      have HE := Lib.hid (HRP.out _ _ HOK2)
                      clear HV HOK2 hE hY
                      go_wp2_with fail
                      go_ret2
                      exact ⟨HE.out, rfl⟩
                    | false =>
                      by_cases hov : (4611686018427387904 : Int) < Y
                      · have HV : DecM.Max < V := by
                          have h9 := hE.1
                          have : decide ((DecM.Max : Int) < Y) = true := decide_eq_true (by unfold DecM.Max; exact hov)
                          rw [this] at h9
                          simpa using h9
                        rw [if_pos HV] at HOK2
                        have HE := Lib.hid (HRP.out _ _ HOK2)
                        clear HV HOK2 hE hY
                        go_wp2_with fail
                        go_ret2
                        exact ⟨HE.out, rfl⟩
                      · have h8 : decide ((DecM.Max : Int) < Y) = false := decide_eq_false (by unfold DecM.Max; exact hov)
                        have hYV : Y = V := hE.2 (by rw [h8]; rfl)
                        have HV : ¬ DecM.Max < V := by
                          have h9 := hE.1
                          rw [h8] at h9
                          simpa using h9.symm
                        rw [if_neg HV, HN.out] at HOK2
                        have HE := Lib.hid (HRP.out _ _ HOK2)
                        have hYb := hY.out rfl
                        subst hYV
                        clear HV HOK2 hE hY h8
                        go_wp2_with fail
                        go_ret2
                        exact ⟨HE.out, rfl⟩
          · have HZ : Hid ((decide (1 < W) && (r.head? == some 48)) = false) := by unfold Hid; rw [decide_eq_false h4]; rfl
            clear HW1 h1 h2
            have hg : bad t q = false := by
              rw [HBL.out]
              unfold lastTest
              rw [HZ.out, decide_eq_false (by intro h; rw [h] at e1; simp at e1), decide_eq_false (by intro h; rw [h] at e2; simp at e2), decide_eq_false h3]
              rfl
            have HOK := Lib.hid (hOK.out hg)
            clear HBAD HBL hOK HZ hg
            obtain ⟨m, hm⟩ : ∃ m : Nat, m = (partT r).length := ⟨_, rfl⟩
            have hPm := HD.out.2.2.2.2.1
            rw [← hm] at hPm
            have HA := Lib.hid HD.out.2.2.2.2.2
            have HM := Lib.hid hm
            clear HD hm
            by_cases hP : P < 0
            · rw [if_pos hP] at hPm
              obtain rfl : m = 0 := by omega
              clear hPm
              go_upto_block 0 with fail
              go_loop [11, 12, 14] (MulR q 0 (val (wholeT r ++ partT r))) (fun _ _ n => q - (intOf n).toNat)
              case atStart => exact MulR.mk 0 X _ (Nat.le_refl _) (by omega) rfl (by rw [Nat.sub_self, Nat.pow_zero, Nat.mul_one]; exact HA.out) (fun h => HX.out (by first | exact h | trivial))
              case round =>
                clear HA HX
                obtain ⟨k, Y, B, hk1, hk2, rfl, rfl, rfl, ha, hY⟩ := hrel
                by_cases hlt : k < q
                · have hpw : Hid (val (wholeT r ++ partT r) * 10 ^ (k + 1 - 0) = val (wholeT r ++ partT r) * 10 ^ (k - 0) * 10) := by
                    unfold Hid
                    rw [show k + 1 - 0 = (k - 0) + 1 by omega, Nat.pow_succ, Nat.mul_assoc]
                  cases B with
                  | true =>
                    have HT := Lib.hid (acc_ten_over ha.out)
                    clear hY ha
                    go_wp2_with fail
                    go_round
                    case rel => exact MulR.mk (k + 1) Y true (by omega) (by omega) (by go_num) (by rw [hpw.out]; exact HT.out) (fun h => by cases h)
                    case measure => simp [intOf]; omega
                  | false =>
                    have hYb := hY.out rfl
                    by_cases hm10 : (461168601842738790 : Int) < Y
                    · have HT := Lib.hid ((acc_ten ha.out).1 (decide_eq_true hm10))
                      clear hY ha
                      go_wp2_with fail
                      go_round
                      case rel => exact MulR.mk (k + 1) Y true (by omega) (by omega) (by go_num) (by rw [hpw.out]; exact HT.out) (fun h => by cases h)
                      case measure => simp [intOf]; omega
                    · have HT := Lib.hid ((acc_ten ha.out).2 (decide_eq_false hm10))
                      clear hY ha
                      go_wp2_with fail
                      go_round
                      case rel => exact MulR.mk (k + 1) (Y * 10) false (by omega) (by omega) (by go_num) (by rw [hpw.out]; exact HT.out) (fun _ => by omega)
                      case measure => simp [intOf]; omega
                · obtain rfl : k = q := by omega
                  have hamt : val (wholeT r ++ partT r) * 10 ^ (k - 0) = amt r k := by unfold amt; rw [← HM.out]
                  have hE := acc_end ha.out
                  rw [hamt] at hE
                  have HOK2 := HOK.out
                  clear hamt ha hlt HOK HM
                  generalize amt r k = V at *
                  cases B with
                  | true =>
                    have HV : DecM.Max < V := by have := hE.1; simpa using this
                    rw [if_pos HV] at HOK2
                    have HE := Lib.hid (HRP.out _ _ HOK2)
                    clear HV HOK2 hE hY
                    go_wp2_with fail
                    go_ret2
                    exact ⟨HE.out, rfl⟩
                  | false =>
                    by_cases hov : (4611686018427387904 : Int) < Y
                    · have HV : DecM.Max < V := by
                        have h9 := hE.1
                        have : decide ((DecM.Max : Int) < Y) = true := decide_eq_true (by unfold DecM.Max; exact hov)
                        rw [this] at h9
                        simpa using h9
                      rw [if_pos HV] at HOK2
                      have HE := Lib.hid (HRP.out _ _ HOK2)
                      clear HV HOK2 hE hY
                      go_wp2_with fail
                      go_ret2
                      exact ⟨HE.out, rfl⟩
                    · have h8 : decide ((DecM.Max : Int) < Y) = false := decide_eq_false (by unfold DecM.Max; exact hov)
                      have hYV : Y = V := hE.2 (by rw [h8]; rfl)
                      have HV : ¬ DecM.Max < V := by
                        have h9 := hE.1
                        rw [h8] at h9
                        simpa using h9.symm
                      rw [if_neg HV, HN.out] at HOK2
                      have HE := Lib.hid (HRP.out _ _ HOK2)
                      have hYb := hY.out rfl
                      subst hYV
                      clear HV HOK2 hE hY h8
                      go_wp2_with fail
                      go_ret2
                      exact ⟨HE.out, rfl⟩
            · rw [if_neg hP] at hPm
              obtain rfl : P = m := hPm
              go_upto_block 0 with fail
              go_loop [11, 12, 14] (MulR q m (val (wholeT r ++ partT r))) (fun _ _ n => q - (intOf n).toNat)
              case atStart => exact MulR.mk m X _ (Nat.le_refl _) (by omega) rfl (by rw [Nat.sub_self, Nat.pow_zero, Nat.mul_one]; exact HA.out) (fun h => HX.out (by first | exact h | trivial))
              case round =>
                clear HA HX
                obtain ⟨k, Y, B, hk1, hk2, rfl, rfl, rfl, ha, hY⟩ := hrel
                by_cases hlt : k < q
                · have hpw : Hid (val (wholeT r ++ partT r) * 10 ^ (k + 1 - m) = val (wholeT r ++ partT r) * 10 ^ (k - m) * 10) := by
                    unfold Hid
                    rw [show k + 1 - m = (k - m) + 1 by omega, Nat.pow_succ, Nat.mul_assoc]
                  cases B with
                  | true =>
                    have HT := Lib.hid (acc_ten_over ha.out)
                    clear hY ha
                    go_wp2_with fail
                    go_round
                    case rel => exact MulR.mk (k + 1) Y true (by omega) (by omega) (by go_num) (by rw [hpw.out]; exact HT.out) (fun h => by cases h)
                    case measure => simp [intOf]; omega
                  | false =>
                    have hYb := hY.out rfl
                    by_cases hm10 : (461168601842738790 : Int) < Y
                    · have HT := Lib.hid ((acc_ten ha.out).1 (decide_eq_true hm10))
                      clear hY ha
                      go_wp2_with fail
                      go_round
                      case rel => exact MulR.mk (k + 1) Y true (by omega) (by omega) (by go_num) (by rw [hpw.out]; exact HT.out) (fun h => by cases h)
                      case measure => simp [intOf]; omega
                    · have HT := Lib.hid ((acc_ten ha.out).2 (decide_eq_false hm10))
                      clear hY ha
                      go_wp2_with fail
                      go_round
                      case rel => exact MulR.mk (k + 1) (Y * 10) false (by omega) (by omega) (by go_num) (by rw [hpw.out]; exact HT.out) (fun _ => by omega)
                      case measure => simp [intOf]; omega
                · obtain rfl : k = q := by omega
                  have hamt : val (wholeT r ++ partT r) * 10 ^ (k - m) = amt r k := by unfold amt; rw [← HM.out]
                  have hE := acc_end ha.out
                  rw [hamt] at hE
                  have HOK2 := HOK.out
                  clear hamt ha hlt HOK HM
                  generalize amt r k = V at *
                  cases B with
                  | true =>
                    have HV : DecM.Max < V := by have := hE.1; simpa using this
                    rw [if_pos HV] at HOK2
                    have HE := Lib.hid (HRP.out _ _ HOK2)
                    clear HV HOK2 hE hY
                    go_wp2_with fail
                    go_ret2
                    exact ⟨HE.out, rfl⟩
                  | false =>
                    by_cases hov : (4611686018427387904 : Int) < Y
                    · have HV : DecM.Max < V := by
                        have h9 := hE.1
                        have : decide ((DecM.Max : Int) < Y) = true := decide_eq_true (by unfold DecM.Max; exact hov)
                        rw [this] at h9
                        simpa using h9
                      rw [if_pos HV] at HOK2
                      have HE := Lib.hid (HRP.out _ _ HOK2)
                      clear HV HOK2 hE hY
                      go_wp2_with fail
                      go_ret2
                      exact ⟨HE.out, rfl⟩
                    · have h8 : decide ((DecM.Max : Int) < Y) = false := decide_eq_false (by unfold DecM.Max; exact hov)
                      have hYV : Y = V := hE.2 (by rw [h8]; rfl)
                      have HV : ¬ DecM.Max < V := by
                        have h9 := hE.1
                        rw [h8] at h9
                        simpa using h9.symm
                      rw [if_neg HV, HN.out] at HOK2
                      have HE := Lib.hid (HRP.out _ _ HOK2)
                      have hYb := hY.out rfl
                      subst hYV
                      clear HV HOK2 hE hY h8
                      go_wp2_with fail
                      go_ret2
                      exact ⟨HE.out, rfl⟩
end Go.Proofs.YtbpndiegbfpigaaDoor.DecW
