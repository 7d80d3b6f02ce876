/- Frames: what was made is read, and what is read was made. No program in sight. -/
import Derived.Test.YtckcnenhnniogaaDoorTagSkipMath
set_option linter.unusedSimpArgs false
set_option linter.unusedVariables false
namespace Go.Proofs.YtckcnenhnniogaaDoor.TagW
open Go.Proofs.YtckcnenhnniogaaDoor.FldW Go.Proofs.YtckcnenhnniogaaDoor.TagM Go.Proofs.YtckcnenhnniogaaDoor.DecM Go.Lib

theorem allB_eq (body : List UInt8) : allB body = leadL ++ decDigits body.length ++ [1] ++ body := by unfold allB leadL; rfl
theorem frameB_eq (body : List UInt8) : frameB body = leadL ++ decDigits body.length ++ [1] ++ (body ++ ([49, 48, 61] ++ low (smallB (allB body)) 3 ++ [1])) := by
  unfold frameB
  conv => lhs; rw [allB_eq]
  rw [show smallB (allB body) = smallB (leadL ++ decDigits body.length ++ [1] ++ body) by rw [allB_eq]]
  simp only [List.append_assoc]
theorem allB_len (body : List UInt8) : (allB body).length = 13 + (decDigits body.length).length + body.length := by
  rw [allB_eq]
  have : leadL.length = 12 := rfl
  simp only [List.length_append, this, List.length_singleton]
  omega
theorem frameB_len (body : List UInt8) : (frameB body).length = (allB body).length + 7 := by
  unfold frameB
  simp [low_len]
theorem valid_iff {fs : List Fld} : validR fs = 0 ↔ goodB fs ∧ (bodyB fs).length ≤ 4096 := by
  unfold validR goodB
  cases fs with
  | nil => simp
  | cons f r =>
    dsimp only
    constructor
    · intro h
      split at h
      · cases h
      · rename_i h1
        split at h
        · cases h
        · refine ⟨⟨?_, f.2, r, ?_⟩, by omega⟩
          · cases hb : badF (f :: r) with
            | false => rfl
            | true => exact absurd (.inr hb) h1
          · have : f.1 = 35 := Classical.byContradiction fun hh => h1 (.inl hh)
            rw [← this]
    · rintro ⟨⟨h1, v, r', e⟩, h2⟩
      injection e with e1 e2
      rw [if_neg (by rw [h1, e1]; simp), if_neg (by omega)]
theorem body_pos {fs : List Fld} (h : goodB fs) : 1 ≤ (bodyB fs).length := by
  obtain ⟨_, v, r, rfl⟩ := h
  rw [bodyB_cons]
  unfold fieldB
  simp
  omega
theorem last_frame (x : Nat) : lastOk ([49, 48, 61] ++ low x 3 ++ [1]) = true ∧ (([49, 48, 61] ++ low x 3 ++ [1]).drop 3).take 3 = low x 3 := by
  have hl := low_len 3 x
  have hd := low_digits 3 x
  generalize low x 3 = l at *
  match l, hl with
  | [a, b, c], _ =>
    refine ⟨?_, rfl⟩
    unfold lastOk
    simp only [List.cons_append, List.nil_append, List.take_succ_cons, List.take_zero, List.drop_succ_cons, List.drop_zero, hd, decide_true, Bool.and_self]
theorem decode_frame {fs : List Fld} (h : validR fs = 0) (b : List UInt8) : decodeR (frameB (bodyB fs) ++ b) = ((fs, (frameB (bodyB fs)).length), 0) := by
  obtain ⟨hg, hn⟩ := valid_iff.1 h
  have h1 := body_pos hg
  have hs : splitR (bodyB fs) = some fs := splitR_iff.2 ⟨hg, rfl⟩
  generalize hx : bodyB fs = body at *
  obtain ⟨t, ht⟩ : ∃ t, t = [49, 48, 61] ++ low (smallB (allB body)) 3 ++ [1] := ⟨_, rfl⟩
  have htl : t.length = 7 := by rw [ht]; simp [low_len]
  have hF : frameB body ++ b = allB body ++ (t ++ b) := by rw [ht]; unfold frameB; simp only [List.append_assoc]
  have hsz : sizeR (frameB body ++ b) = ((13 + (decDigits body.length).length, body.length), 0) := by
    rw [frameB_eq, List.append_assoc]
    exact sizeR_of h1 hn
  have hall := allB_len body
  have hp : 13 + (decDigits body.length).length + body.length = (allB body).length := by omega
  have hfl := frameB_len body
  unfold decodeR
  rw [hsz]
  dsimp only
  rw [if_neg (by decide), if_neg (by simp), if_neg (by rw [List.length_append]; omega), hp]
  have hd : (frameB body ++ b).drop (allB body).length = t ++ b := by rw [hF, List.drop_left]
  have ht7 : (t ++ b).take 7 = t := by rw [← htl, List.take_left]
  have htk : (frameB body ++ b).take (allB body).length = allB body := by rw [hF, List.take_left]
  have hbd : ((frameB body ++ b).drop (13 + (decDigits body.length).length)).take body.length = body := by
    rw [hF, allB_eq]
    have e : (leadL ++ decDigits body.length ++ [1] ++ body ++ (t ++ b)).drop (13 + (decDigits body.length).length) = body ++ (t ++ b) := by
      have el : (leadL ++ decDigits body.length ++ [1]).length = 13 + (decDigits body.length).length := by
        have : leadL.length = 12 := rfl
        simp only [List.length_append, this, List.length_singleton]; omega
      rw [← el, List.append_assoc (leadL ++ decDigits body.length ++ [1]), List.drop_left]
    rw [e, List.take_left]
  rw [hd, ht7, htk, hbd, hs]
  obtain ⟨l1, l2⟩ := last_frame (smallB (allB body))
  rw [← ht] at l1 l2
  rw [l1, l2]
  simp [hfl]
theorem decode_short {s : List UInt8} (h : (sizeR s).2 = 10) : decodeR s = (([], 0), 10) := by unfold decodeR; rw [if_pos h]
theorem decode_beg {fs : List Fld} (h : validR fs = 0) {i : Nat} (hi : i < (frameB (bodyB fs)).length) : decodeR ((frameB (bodyB fs)).take i) = (([], 0), 10) := by
  obtain ⟨hg, hn⟩ := valid_iff.1 h
  have h1 := body_pos hg
  generalize hx : bodyB fs = body at *
  have hfl := frameB_len body
  have hall := allB_len body
  obtain ⟨r, hr⟩ : ∃ r, r = body ++ ([49, 48, 61] ++ low (smallB (allB body)) 3 ++ [1]) := ⟨_, rfl⟩
  have hF : frameB body = leadL ++ (decDigits body.length ++ ([1] ++ r)) := by rw [frameB_eq, hr]; simp only [List.append_assoc]
  have hl12 : leadL.length = 12 := rfl
  by_cases h12 : i < 12
  · apply decode_short
    unfold sizeR
    rw [if_pos]
    refine ⟨by rw [List.length_take]; omega, ?_⟩
    rw [hF, List.take_append_of_le_length (by omega)]
    exact List.take_prefix _ _
  · by_cases hd : i - 12 ≤ (decDigits body.length).length
    · apply decode_short
      have e : (frameB body).take i = leadL ++ (decDigits body.length).take (i - 12) := by
        rw [hF, List.take_append, hl12, List.take_append_of_le_length hd, List.take_of_length_le (by omega)]
      rw [e]
      unfold sizeR
      rw [if_neg (by rw [List.length_append]; omega), if_pos (List.prefix_append _ _), show (12 : Nat) = leadL.length from rfl, List.drop_left]
      have hdig : ((decDigits body.length).take (i - leadL.length)).all isD = true := by
        rw [List.all_eq_true]
        intro x hx2
        exact List.all_eq_true.1 (dec_digits body.length) x (List.mem_of_mem_take hx2)
      have hval := val_take_le (decDigits body.length) (i - leadL.length)
      rw [val_dec] at hval
      have := scanA_digits ((decDigits body.length).take (i - leadL.length)) 12 0 [] hdig (fun _ => by
        rw [List.head?_take]
        split
        · simp
        · exact dec_head h1) (Nat.le_trans hval hn)
      rw [List.append_nil] at this
      show (scanA leadL.length 0 _).2 = 10
      rw [show leadL.length = 12 from rfl] at this ⊢
      rw [this]
      rfl
    · have e : (frameB body).take i = leadL ++ decDigits body.length ++ [1] ++ r.take (i - (13 + (decDigits body.length).length)) := by
        have el : (leadL ++ decDigits body.length ++ [1]).length = 13 + (decDigits body.length).length := by
          simp only [List.length_append, hl12, List.length_singleton]; omega
        rw [show frameB body = (leadL ++ decDigits body.length ++ [1]) ++ r by rw [hF]; simp only [List.append_assoc], List.take_append, el, List.take_of_length_le (by omega)]
      have hlen : ((frameB body).take i).length = i := by rw [List.length_take]; omega
      unfold decodeR
      rw [hlen, e, sizeR_of h1 hn]
      dsimp only
      rw [if_neg (by decide), if_neg (by simp), if_pos (by omega)]
theorem last_says {t : List UInt8} (h : lastOk t = true) : t = [49, 48, 61] ++ (t.drop 3).take 3 ++ [1] := by
  unfold lastOk at h
  simp only [Bool.and_eq_true, decide_eq_true_eq] at h
  obtain ⟨⟨h1, _⟩, h3⟩ := h
  have h4 : (t.drop 3).drop 3 = t.drop 6 := by rw [List.drop_drop]
  conv => lhs; rw [← List.take_append_drop 3 t, ← List.take_append_drop 3 (t.drop 3), h4, h1, h3]
  simp only [List.append_assoc]
theorem decode_ok {s : List UInt8} {fs : List Fld} {n : Nat} (h : decodeR s = ((fs, n), 0)) : validR fs = 0 ∧ n ≤ s.length ∧ n = (frameB (bodyB fs)).length ∧ frameB (bodyB fs) = s.take n := by
  unfold decodeR at h
  split at h
  · cases h
  · split at h
    · cases h
    · rename_i h1 h2
      have h2 : (sizeR s).2 = 0 := by simpa using h2
      obtain ⟨p, m, hsz⟩ : ∃ p m, sizeR s = ((p, m), 0) := ⟨(sizeR s).1.1, (sizeR s).1.2, by rw [← h2]⟩
      rw [hsz] at h
      obtain ⟨q1, q2, q3, q4, q5⟩ := sizeR_says hsz
      dsimp only at h
      split at h
      · cases h
      · rename_i h3
        split at h
        · cases h
        · rename_i h4
          have h4 : lastOk ((s.drop (p + m)).take 7) = true := by simpa using h4
          split at h
          · cases h
          · rename_i h5
            have h5 := Decidable.not_not.1 h5
            cases hs : splitR ((s.drop p).take m) with
            | none => rw [hs] at h; cases h
            | some fs' =>
              rw [hs] at h
              simp only [Prod.mk.injEq] at h
              obtain ⟨⟨rfl, rfl⟩, _⟩ := h
              obtain ⟨hg, hb⟩ := splitR_iff.1 hs
              have hbl : (bodyB fs').length = m := by rw [hb, List.length_take, List.length_drop]; omega
              have hall : allB (bodyB fs') = s.take (p + m) := by
                rw [allB_eq, hbl, ← q1, hb, List.take_add]
              have hfr : frameB (bodyB fs') = s.take (p + m + 7) := by
                unfold frameB
                rw [hall, List.take_add (i := p + m) (j := 7)]
                congr 1
                conv => rhs; rw [last_says h4, h5]
              refine ⟨valid_iff.2 ⟨hg, by omega⟩, by omega, ?_, hfr⟩
              rw [hfr, List.length_take]
              omega
theorem decode_bad {s : List UInt8} {fs : List Fld} {n : Nat} {e : Int} (h : decodeR s = ((fs, n), e)) (he : e ≠ 0) : fs = [] ∧ n ≤ s.length ∧ (0 < n ↔ e ≠ 10) ∧ (e = 10 → n = 0) := by
  have hne : (sizeR s).2 ≠ 10 → 1 ≤ s.length := by
    intro hh
    rcases Nat.eq_zero_or_pos s.length with h0 | h0
    · exfalso
      apply hh
      have := List.length_eq_zero_iff.1 h0
      subst this
      rfl
    · exact h0
  unfold decodeR at h
  split at h
  · simp only [Prod.mk.injEq] at h
    obtain ⟨⟨rfl, rfl⟩, rfl⟩ := h
    exact ⟨rfl, Nat.zero_le _, by simp, fun _ => rfl⟩
  · rename_i h1
    have hb := skip_bounds (hne h1)
    have key : ∀ c : Int, c ≠ 10 → (([], skipR s), c) = ((fs, n), e) → fs = [] ∧ n ≤ s.length ∧ (0 < n ↔ e ≠ 10) ∧ (e = 10 → n = 0) := by
      intro c hc hh
      simp only [Prod.mk.injEq] at hh
      obtain ⟨⟨rfl, rfl⟩, rfl⟩ := hh
      exact ⟨rfl, hb.2, ⟨fun _ => hc, fun _ => by omega⟩, fun hh => absurd hh hc⟩
    split at h
    · exact key _ (by decide) h
    · split at h
      · simp only [Prod.mk.injEq] at h
        obtain ⟨⟨rfl, rfl⟩, rfl⟩ := h
        exact ⟨rfl, Nat.zero_le _, by simp, fun _ => rfl⟩
      · split at h
        · exact key _ (by decide) h
        · split at h
          · exact key _ (by decide) h
          · split at h
            · exact key _ (by decide) h
            · simp only [Prod.mk.injEq] at h
              exact absurd h.2.symm he
theorem decode_end {s : List UInt8} {fs : List Fld} {n : Nat} {e : Int} (h : decodeR s = ((fs, n), e)) : n ≤ s.length ∧ (0 < n ↔ e ≠ 10) := by
  by_cases he : e = 0
  · subst he
    obtain ⟨h1, h2, h3, h4⟩ := decode_ok h
    have := frameB_len (bodyB fs)
    exact ⟨h2, fun _ => by decide, fun _ => by omega⟩
  · have := decode_bad h he
    exact ⟨this.2.1, this.2.2.1⟩
end Go.Proofs.YtckcnenhnniogaaDoor.TagW
