/- What is formatted is read back, and the other way round. No program in sight. -/
import Derived.Test.YtbpndiegbfpigaaGreatDoorDecParseMath
namespace Go.Proofs.YtbpndiegbfpigaaGreatDoor.DecM
open Go.Lib

theorem low_ne {n x : Nat} (h : 0 < n) : low x n ≠ [] := by
  intro e
  have := low_len n x
  rw [e] at this
  simp at this; omega
theorem low_head (x n : Nat) : (low x (n + 1)).head? = some (dgt (x / 10 ^ n % 10)) := by rw [low_cons]; rfl
theorem head_ne (X q : Nat) (h : 1 < len X q - q) : (low (X / 10 ^ q) (len X q - q)).head? ≠ some 48 := by
  have hl : len X q = nDigits X := by unfold len at h ⊢; omega
  have h1 : 1 < nDigits X := by omega
  have h2 := nd_low X h1
  have h3 := lt_pow_nDigits X
  obtain ⟨k, hk⟩ : ∃ k, len X q - q = k + 1 := ⟨len X q - q - 1, by omega⟩
  rw [hk, low_head, Nat.div_div_eq_div_mul, ← Nat.pow_add, show q + k = nDigits X - 1 by omega]
  have h4 : 1 ≤ X / 10 ^ (nDigits X - 1) := Nat.div_pos h2 (Nat.pow_pos (by decide))
  have h5 : X / 10 ^ (nDigits X - 1) < 10 := by
    rw [Nat.div_lt_iff_lt_mul (Nat.pow_pos (by decide))]
    have : 10 ^ nDigits X = 10 ^ (nDigits X - 1) * 10 := by rw [← Nat.pow_succ]; congr 1; omega
    omega
  rw [Nat.mod_eq_of_lt h5]
  intro e
  have := dgt_toNat h5
  rw [Option.some.inj e] at this
  have h48 : (48 : UInt8).toNat = 48 := rfl
  omega
theorem fmtL_head (X q : Nat) : ∃ b l, fmtL X q = b :: l ∧ isD b = true := by
  have hp := len_ge X q
  have key : ∀ (n x : Nat), 0 < n → ∃ b l, low x n = b :: l ∧ isD b = true := fun n x hn => by
    obtain ⟨k, rfl⟩ : ∃ k, n = k + 1 := ⟨n - 1, by omega⟩
    exact ⟨_, _, low_cons k x, isD_dgt (Nat.mod_lt _ (by decide))⟩
  unfold fmtL
  by_cases h : q = 0
  · rw [if_pos h]; exact key _ _ (by omega)
  · rw [if_neg h]
    obtain ⟨b, l, e, hb⟩ := key (len X q - q) (X / 10 ^ q) (by omega)
    exact ⟨b, l ++ 46 :: low X q, by rw [e]; rfl, hb⟩
theorem fmt_sign (x : Int) (q : Nat) : negT (fmtF x q) = decide (x < 0) ∧ restT (fmtF x q) = fmtL x.natAbs q := by
  obtain ⟨b, l, e, hb⟩ := fmtL_head x.natAbs q
  by_cases h : x < 0
  · have h1 : negT (fmtF x q) = true := by unfold negT fmtF; rw [if_pos h]; rfl
    refine ⟨by rw [h1]; simp [h], ?_⟩
    unfold restT
    rw [if_pos h1]
    unfold fmtF
    rw [if_pos h]; rfl
  · have h1 : negT (fmtF x q) = false := by
      unfold negT fmtF
      rw [if_neg h, e]
      simp
      rintro rfl
      exact absurd hb (by decide)
    refine ⟨by rw [h1]; simp [h], ?_⟩
    unfold restT
    rw [if_neg (by simp [h1])]
    unfold fmtF
    rw [if_neg h]; rfl
theorem digs_low {n x : Nat} (h : 0 < n) : digs (low x n) = true := by
  unfold digs
  rw [low_digits]
  cases hl : low x n with
  | nil => exact absurd hl (low_ne h)
  | cons b l => rfl
/-- what is formatted is read back -/
theorem parse_fmt (x : Int) (q : Nat) (hx : x.natAbs ≤ DecM.Max) : parseF (fmtF x q) q = (x, 0) := by
  obtain ⟨hn, hr⟩ := fmt_sign x q
  have hp := len_ge x.natAbs q
  have hlt := lt_len x.natAbs q
  obtain ⟨W, Q, P, hW, hQ, hP, dW, hz, hbP, hv, hqQ⟩ : ∃ W Q P, wholeT (fmtL x.natAbs q) = W ∧ partT (fmtL x.natAbs q) = Q ∧ pointT (fmtL x.natAbs q) = P ∧ digs W = true ∧ (1 < W.length → W.head? ≠ some 48) ∧ (P = true → digs Q = true ∧ Q.length = q) ∧ val (W ++ Q) * 10 ^ (q - Q.length) = x.natAbs ∧ val (W ++ Q) * 10 ^ (q - Q.length) = val (W ++ Q) := by
    by_cases h : q = 0
    · have e : fmtL x.natAbs q = low x.natAbs (len x.natAbs q) := by unfold fmtL; rw [if_pos h]
      rw [e]
      obtain ⟨h1, h2, h3⟩ := split_none (low_digits (len x.natAbs q) x.natAbs)
      refine ⟨_, _, _, h1, h2, h3, digs_low (by omega), fun hl => ?_, fun h => by simp at h, ?_, ?_⟩
      · subst h
        have := head_ne x.natAbs 0 (by rw [low_len] at hl; simpa using hl)
        simpa using this
      · subst h
        rw [List.append_nil, val_low, Nat.mod_eq_of_lt hlt]; simp
      · subst h; simp
    · have e : fmtL x.natAbs q = low (x.natAbs / 10 ^ q) (len x.natAbs q - q) ++ 46 :: low x.natAbs q := by unfold fmtL; rw [if_neg h]
      rw [e]
      obtain ⟨h1, h2, h3⟩ := split_of (q := low x.natAbs q) (low_digits (len x.natAbs q - q) (x.natAbs / 10 ^ q))
      refine ⟨_, _, _, h1, h2, h3, digs_low (by omega), fun hl => ?_, fun _ => ⟨digs_low (by omega), low_len _ _⟩, ?_, ?_⟩
      · exact head_ne x.natAbs q (by rw [low_len] at hl; exact hl)
      · rw [low_len, Nat.sub_self, Nat.pow_zero, Nat.mul_one, ← low_append, val_low, Nat.mod_eq_of_lt]
        rw [show len x.natAbs q - q + q = len x.natAbs q by omega]; exact hlt
      · rw [low_len, Nat.sub_self]; simp
  have hb : bad (fmtF x q) q = false := by
    unfold bad badW badP badN
    rw [hr, hn, hW, hQ, hP, dW]
    have h1 : (decide (1 < W.length) && W.head? == some 48) = false := by
      by_cases hl : 1 < W.length
      · have := hz hl
        simp [this]
      · simp [hl]
    have h2 : (P && (!digs Q || decide (q < Q.length))) = false := by
      cases P with
      | false => rfl
      | true =>
        obtain ⟨h3, h4⟩ := hbP rfl
        rw [h3, h4]; simp
    have h3 : (decide (x < 0) && decide (val (W ++ Q) = 0)) = false := by
      by_cases h : x < 0
      · have : val (W ++ Q) ≠ 0 := by rw [← hqQ, hv]; omega
        simp [this]
      · simp [h]
    rw [h1, h2, h3]; rfl
  unfold parseF
  rw [hb, hr, hn]
  have ha : amt (fmtL x.natAbs q) q = x.natAbs := by unfold amt; rw [hW, hQ]; exact hv
  rw [ha, if_neg (by simp), if_neg (by omega)]
  by_cases h : x < 0
  · simp [h]; omega
  · simp [h]; omega
/-- what a text was read as has that text, with noughts behind -/
theorem fmt_parse {t : List UInt8} {q : Nat} {y : Int} (h : parseF t q = (y, 0)) : y.natAbs ≤ DecM.Max ∧ ∃ rest, fmtF y q = t ++ rest ∧ ∀ b ∈ rest, b = 48 ∨ b = 46 := by
  unfold parseF at h
  by_cases hb : bad t q = true
  · rw [if_pos hb] at h; cases h
  rw [if_neg hb] at h
  by_cases hM : DecM.Max < amt (restT t) q
  · rw [if_pos hM] at h; cases h
  rw [if_neg hM] at h
  have hy : (if negT t then -(amt (restT t) q : Int) else (amt (restT t) q : Int)) = y := congrArg Prod.fst h
  have hbf : bad t q = false := by simpa using hb
  unfold bad badW badP badN at hbf
  simp only [Bool.or_eq_false_iff, Bool.not_eq_false'] at hbf
  obtain ⟨⟨⟨dW, hz⟩, hP⟩, hN⟩ := hbf
  obtain ⟨W, hW⟩ : ∃ W, W = wholeT (restT t) := ⟨_, rfl⟩
  obtain ⟨Q, hQ⟩ : ∃ Q, Q = partT (restT t) := ⟨_, rfl⟩
  have hs := split_eq (restT t)
  have ha : amt (restT t) q = val (W ++ Q) * 10 ^ (q - Q.length) := by unfold amt; rw [hW, hQ]
  rw [← hW] at dW hz
  rw [← hQ] at hP
  rw [← hW, ← hQ] at hN hs
  have aW : W.all isD = true := by unfold digs at dW; simp only [Bool.and_eq_true] at dW; exact dW.2
  have nW : W ≠ [] := by rintro rfl; unfold digs at dW; simp at dW
  have hPQ : (pointT (restT t) = true → digs Q = true ∧ Q.length ≤ q) := fun hp => by
    rw [hp] at hP
    simp at hP
    exact hP
  have aQ : Q.all isD = true ∧ Q.length ≤ q := by
    rcases hs with ⟨hp, _⟩ | ⟨_, _, e⟩
    · obtain ⟨h1, h2⟩ := hPQ hp
      unfold digs at h1
      simp only [Bool.and_eq_true] at h1
      exact ⟨h1.2, h2⟩
    · rw [e]; exact ⟨rfl, by simp⟩
  have h1W : W.length = 1 ∨ W.head? ≠ some 48 := by
    by_cases hl : 1 < W.length
    · refine .inr ?_
      rw [decide_eq_true hl] at hz
      simpa using hz
    · have := List.length_pos_iff.2 nW
      exact .inl (by omega)
  -- the digits, filled up
  obtain ⟨Z, hZ⟩ : ∃ Z, Z = Q ++ List.replicate (q - Q.length) 48 := ⟨_, rfl⟩
  have lZ : Z.length = q := by rw [hZ]; simp; omega
  have aZ : Z.all isD = true := by
    rw [hZ, List.all_append, aQ.1]
    simp
    exact .inr (by decide)
  have hV : amt (restT t) q = val (W ++ Z) := by
    rw [ha, hZ, ← List.append_assoc, val_append (W ++ Q), val_zeros, List.length_replicate, Nat.add_zero]
  have hfl : fmtL (val (W ++ Z)) q = if q = 0 then W else W ++ 46 :: Z := by
    have h9 := low_val (W ++ Z) (by rw [List.all_append, aW, aZ]; rfl)
    rw [List.length_append, lZ] at h9
    have hL : len (val (W ++ Z)) q = W.length + q := by
      have hpos := List.length_pos_iff.2 nW
      rcases h1W with h1 | h1
      · by_cases h48 : W.head? = some 48
        · have hvl : val (W ++ Z) < 10 ^ q := by
            have hW1 : W = [48] := by
              match W, h1, h48 with
              | [b], _, h => simp at h; rw [h]
            rw [hW1, List.singleton_append, val_cons]
            have := val_lt Z aZ
            rw [lZ] at this
            simpa using this
          have : nDigits (val (W ++ Z)) ≤ q + 1 := by
            by_cases h2 : 1 < nDigits (val (W ++ Z))
            · have h3 := nd_low _ h2
              have h4 := (Nat.pow_lt_pow_iff_right (by decide : 1 < 10)).1 (Nat.lt_of_le_of_lt h3 hvl)
              omega
            · omega
          unfold len; omega
        · have := nd_val (W ++ Z) (by rw [List.all_append, aW, aZ]; rfl) (by simp [nW]) (.inr (by rw [List.head?_append]; cases hh : W.head? with | none => simp at hh; exact absurd hh nW | some b => simp; rintro rfl; exact h48 hh))
          rw [List.length_append, lZ] at this
          unfold len; omega
      · have := nd_val (W ++ Z) (by rw [List.all_append, aW, aZ]; rfl) (by simp [nW]) (.inr (by rw [List.head?_append]; cases hh : W.head? with | none => simp at hh; exact absurd hh nW | some b => simp; rintro rfl; exact h1 hh))
        rw [List.length_append, lZ] at this
        unfold len; omega
    rw [low_append] at h9
    have h10 := List.append_inj h9 (low_len _ _)
    unfold fmtL
    rw [hL, Nat.add_sub_cancel, h10.1, h10.2]
    by_cases hq : q = 0
    · rw [if_pos hq, if_pos hq, low_append, h10.1, h10.2]
      have : Z = [] := List.eq_nil_of_length_eq_zero (by omega)
      rw [this, List.append_nil]
    · rw [if_neg hq, if_neg hq]
  have hyn : y.natAbs = val (W ++ Z) := by
    rw [← hy, hV]
    split <;> omega
  have hsg : (if y < 0 then [45] else ([] : List UInt8)) ++ restT t = t := by
    unfold restT
    by_cases hn : negT t = true
    · have hvn : val (W ++ Z) ≠ 0 := by
        rw [hn] at hN
        simp at hN
        rw [← hV, ha]
        have : 0 < 10 ^ (q - Q.length) := Nat.pow_pos (by decide)
        exact Nat.ne_of_gt (Nat.mul_pos (by omega) this)
      have hlt : y < 0 := by rw [← hy, hn, hV]; simp; omega
      rw [if_pos hlt, if_pos hn]
      unfold negT at hn
      cases t with
      | nil => simp at hn
      | cons b l => simp at hn; subst hn; rfl
    · have hge : ¬ y < 0 := by rw [← hy, if_neg hn]; omega
      rw [if_neg hge, if_neg hn]; rfl
  refine ⟨by rw [hyn, ← hV]; omega, ?_⟩
  unfold fmtF
  rw [hyn, hfl]
  rcases hs with ⟨hp, e⟩ | ⟨hp, e, eQ⟩
  · obtain ⟨h1, h2⟩ := hPQ hp
    have hq : q ≠ 0 := by
      intro h0
      have : Q = [] := List.eq_nil_of_length_eq_zero (by omega)
      rw [this] at h1
      simp [digs] at h1
    rw [if_neg hq]
    refine ⟨List.replicate (q - Q.length) 48, ?_, fun b hb => .inl (List.eq_of_mem_replicate hb)⟩
    conv => rhs; rw [← hsg, e]
    rw [hZ]; simp
  · by_cases hq : q = 0
    · rw [if_pos hq]
      refine ⟨[], ?_, by simp⟩
      conv => rhs; rw [← hsg, e]
      simp
    · rw [if_neg hq]
      refine ⟨46 :: Z, ?_, fun b hb => ?_⟩
      · conv => rhs; rw [← hsg, e]
        simp
      · rcases List.mem_cons.1 hb with rfl | hb
        · exact .inr rfl
        · rw [hZ, eQ, List.nil_append] at hb
          exact .inl (List.eq_of_mem_replicate hb)
theorem parse_zero {t : List UInt8} {q : Nat} {y c : Int} (h : parseF t q = (y, c)) (hc : c ≠ 0) : y = 0 := by
  unfold parseF at h
  split at h
  · cases h; rfl
  · split at h
    · cases h; rfl
    · cases h; exact absurd rfl hc
end Go.Proofs.YtbpndiegbfpigaaGreatDoor.DecM
