/- SumTells, the plain law: turned bytes in up to four neighbouring places. -/
import Derived.Test.YtddhcemdkhhikaaDoorSumMath
namespace Go.Proofs.YtddhcemdkhhikaaDoor.SumM

def natl (l : List UInt8) : List Nat := l.map UInt8.toNat

/-- after k masks: the bytes, and how many were turned -/
def tur (at_ : Int) (ms : List UInt8) (l : List UInt8) : Nat → List UInt8 × Nat
  | 0 => (l, 0)
  | k + 1 =>
    if 0 ≤ at_ ∧ at_ < (l.length : Int) - k then
      ((tur at_ ms l k).1.set (at_.toNat + k) ((tur at_ ms l k).1.getD (at_.toNat + k) 0 ^^^ ms.getD k 0), (tur at_ ms l k).2 + if ms.getD k 0 = 0 then 0 else 1)
    else tur at_ ms l k

theorem tur_len (at_ : Int) (ms l : List UInt8) (k : Nat) : (tur at_ ms l k).1.length = l.length := by
  induction k with
  | zero => rfl
  | succ k ih => unfold tur; split <;> simp [ih]
theorem tur_le (at_ : Int) (ms l : List UInt8) (k : Nat) : (tur at_ ms l k).2 ≤ k := by
  induction k with
  | zero => exact Nat.le_refl _
  | succ k ih =>
    unfold tur
    split
    · simp only
      split <;> omega
    · omega

theorem tur_out (at_ : Int) (ms l : List UInt8) (h : ¬ (0 ≤ at_ ∧ at_ < (l.length : Int))) (k : Nat) : tur at_ ms l k = (l, 0) := by
  induction k with
  | zero => rfl
  | succ k ih => unfold tur; rw [if_neg (by omega), ih]

/-- byte by byte -/
theorem tur_get (p : Nat) (ms l : List UInt8) (k i : Nat) :
    (tur (p : Int) ms l k).1.getD i 0 = if p ≤ i ∧ i < p + k ∧ i < l.length then l.getD i 0 ^^^ ms.getD (i - p) 0 else l.getD i 0 := by
  induction k with
  | zero => rw [if_neg (by omega)]; rfl
  | succ k ih =>
    unfold tur
    split
    · rename_i h
      simp only [Int.toNat_natCast]
      by_cases hi : i = p + k
      · subst hi
        have hlen := tur_len (p : Int) ms l k
        rw [if_pos (by omega)]
        rw [if_neg (by omega)] at ih
        rw [ih]
        rw [List.getD, List.getElem?_set_self (by omega)]
        simp
      · rw [List.getD, List.getElem?_set_ne (by omega), ← List.getD, ih]
        by_cases hc : p ≤ i ∧ i < p + k ∧ i < l.length
        · rw [if_pos hc, if_pos (by omega)]
        · rw [if_neg hc, if_neg (by omega)]
    · rename_i h
      rw [ih]
      by_cases hc : p ≤ i ∧ i < p + k ∧ i < l.length
      · rw [if_pos hc, if_pos (by omega)]
      · rw [if_neg hc, if_neg (by omega)]

theorem tur_zero (p : Nat) (ms l : List UInt8) (k : Nat) : (tur (p : Int) ms l k).2 = 0 ↔ ∀ i, i < k → p + i < l.length → ms.getD i 0 = 0 := by
  induction k with
  | zero => simp [tur]
  | succ k ih =>
    unfold tur
    split
    · rename_i h
      constructor
      · intro h0 i hi hl
        simp only at h0
        rcases Nat.lt_or_eq_of_le (Nat.le_of_lt_succ hi) with h1 | h1
        · exact ih.1 (by omega) i h1 hl
        · subst h1
          by_cases hm : ms.getD i 0 = 0
          · exact hm
          · rw [if_neg hm] at h0; omega
      · intro hall
        have h1 := ih.2 (fun i hi hl => hall i (by omega) hl)
        have h2 := hall k (by omega) (by omega)
        simp only [h1, h2, if_true]
    · rename_i h
      rw [ih]
      constructor
      · intro hall i hi hl
        rcases Nat.lt_or_eq_of_le (Nat.le_of_lt_succ hi) with h1 | h1
        · exact hall i h1 hl
        · omega
      · exact fun hall i hi hl => hall i (by omega) hl

/-- just one was turned: where -/
theorem tur_one (p : Nat) (ms l : List UInt8) (k : Nat) (h : (tur (p : Int) ms l k).2 = 1) :
    ∃ q, q < k ∧ p + q < l.length ∧ ms.getD q 0 ≠ 0 ∧ ∀ i, i < k → p + i < l.length → i ≠ q → ms.getD i 0 = 0 := by
  induction k with
  | zero => simp [tur] at h
  | succ k ih =>
    unfold tur at h
    split at h
    · rename_i hc
      simp only at h
      by_cases hm : ms.getD k 0 = 0
      · rw [if_pos hm] at h
        obtain ⟨q, hq, hl, hn, hall⟩ := ih (by omega)
        refine ⟨q, by omega, hl, hn, fun i hi hil hne => ?_⟩
        rcases Nat.lt_or_eq_of_le (Nat.le_of_lt_succ hi) with h1 | h1
        · exact hall i h1 hil hne
        · subst h1; exact hm
      · rw [if_neg hm] at h
        have h0 := (tur_zero p ms l k).1 (by omega)
        refine ⟨k, by omega, by omega, hm, fun i hi hil hne => h0 i (by omega) hil⟩
    · rename_i hc
      obtain ⟨q, hq, hl, hn, hall⟩ := ih h
      refine ⟨q, by omega, hl, hn, fun i hi hil hne => ?_⟩
      rcases Nat.lt_or_eq_of_le (Nat.le_of_lt_succ hi) with h1 | h1
      · exact hall i h1 hil hne
      · omega

theorem xor_eq_zero (a b : Nat) : a ^^^ b = 0 ↔ a = b := by
  constructor
  · intro h
    have h1 : a ^^^ b ^^^ b = 0 ^^^ b := by rw [h]
    rwa [Nat.xor_assoc, Nat.xor_self, Nat.xor_zero, Nat.zero_xor] at h1
  · rintro rfl; exact Nat.xor_self _

theorem crcN_eq (l m : List Nat) (h : l.length = m.length) : crcN l = crcN m ↔ crcS 0 (List.zipWith (· ^^^ ·) l m) = 0 := by
  have e := crcS_xor l m h 4294967295 4294967295
  rw [Nat.xor_self] at e
  rw [← e, xor_eq_zero]
  unfold crcN
  constructor
  · intro h1
    have h2 : crcS 4294967295 l ^^^ 4294967295 ^^^ 4294967295 = crcS 4294967295 m ^^^ 4294967295 ^^^ 4294967295 := by rw [h1]
    rwa [Nat.xor_assoc, Nat.xor_assoc, Nat.xor_self, Nat.xor_zero, Nat.xor_zero] at h2
  · intro h1; rw [h1]

theorem getD_natl (l : List UInt8) (i : Nat) : (natl l).getD i 0 = (l.getD i 0).toNat := by
  unfold natl
  rw [List.getD, List.getElem?_map, List.getD]
  cases l[i]? <;> rfl

/-- the difference of the bytes and the turned bytes: the masks among noughts -/
theorem diff_eq (p : Nat) (ms l : List UInt8) (hms : ms.length = 4) (hp : p < l.length) :
    List.zipWith (· ^^^ ·) (natl l) (natl (tur (p : Int) ms l 4).1) = List.replicate p 0 ++ (natl ms).take (l.length - p) ++ List.replicate (l.length - p - 4) 0 := by
  have hlen := tur_len (p : Int) ms l 4
  have hn1 : (natl l).length = l.length := by simp [natl]
  have hn2 : (natl (tur (p : Int) ms l 4).1).length = l.length := by simp [natl, hlen]
  have hn3 : (natl ms).length = 4 := by simp [natl, hms]
  apply List.ext_getElem
  · simp only [List.length_zipWith, List.length_append, List.length_replicate, List.length_take, hn1, hn2, hn3]; omega
  · intro i h1 h2
    have hi : i < l.length := by simp only [List.length_zipWith, hn1, hn2] at h1; omega
    rw [List.getElem_zipWith]
    have e1 : (natl l)[i]'(by omega) = (l.getD i 0).toNat := by
      rw [← getD_natl, List.getD, List.getElem?_eq_getElem (by omega)]; rfl
    have e2 : (natl (tur (p : Int) ms l 4).1)[i]'(by omega) = ((tur (p : Int) ms l 4).1.getD i 0).toNat := by
      rw [← getD_natl, List.getD, List.getElem?_eq_getElem (by omega)]; rfl
    rw [e1, e2, tur_get]
    by_cases hc : p ≤ i ∧ i < p + 4 ∧ i < l.length
    · rw [if_pos hc]
      have e3 : (List.replicate p 0 ++ (natl ms).take (l.length - p) ++ List.replicate (l.length - p - 4) 0)[i] = (natl ms)[i - p]'(by omega) := by
        rw [List.getElem_append_left (by simp [hn3]; omega), List.getElem_append_right (by simp; omega)]
        simp [List.getElem_take]
      rw [e3]
      have e4 : (natl ms)[i - p]'(by omega) = (ms.getD (i - p) 0).toNat := by
        rw [← getD_natl, List.getD, List.getElem?_eq_getElem (by omega)]; rfl
      rw [e4, UInt8.toNat_xor, ← Nat.xor_assoc, Nat.xor_self, Nat.zero_xor]
    · rw [if_neg hc, Nat.xor_self]
      by_cases hlt : i < p
      · rw [List.getElem_append_left (by simp; omega), List.getElem_append_left (by simpa using hlt)]; simp
      · rw [List.getElem_append_right (by simp [hn3]; omega)]; simp

theorem toNat_eq_zero (x : UInt8) : x.toNat = 0 ↔ x = 0 := by
  constructor
  · intro h; exact UInt8.toNat_inj.1 h
  · rintro rfl; rfl

/-- the CRC tells -/
theorem tells_crc (at_ : Int) (ms l : List UInt8) (hms : ms.length = 4) : (crcN (natl l) = crcN (natl (tur at_ ms l 4).1)) ↔ (tur at_ ms l 4).2 = 0 := by
  by_cases h : 0 ≤ at_ ∧ at_ < (l.length : Int)
  · obtain ⟨p, rfl⟩ := Int.eq_ofNat_of_zero_le h.1
    have hlen := tur_len (p : Int) ms l 4
    rw [crcN_eq _ _ (by simp [natl, hlen]), diff_eq p ms l hms (by omega), crcS_burst _ _ _ _ (by simp [natl, hms]; omega), tur_zero]
    · constructor
      · intro hall i hi hl
        rw [← toNat_eq_zero, ← getD_natl]
        refine hall _ ?_
        have hn3 : (natl ms).length = 4 := by simp [natl, hms]
        rw [List.getD, List.getElem?_eq_getElem (by omega)]
        exact List.mem_take_iff_getElem.2 ⟨i, by omega, rfl⟩
      · intro hall m hm
        obtain ⟨i, hi, rfl⟩ := List.mem_take_iff_getElem.1 hm
        have hn3 : (natl ms).length = 4 := by simp [natl, hms]
        have h1 := hall i (by omega) (by omega)
        rw [← toNat_eq_zero, ← getD_natl, List.getD, List.getElem?_eq_getElem (by omega)] at h1
        exact h1
    · intro m hm
      have := List.mem_of_mem_take hm
      simp only [natl, List.mem_map] at this
      obtain ⟨x, _, rfl⟩ := this
      exact x.toNat_lt
  · rw [tur_out at_ ms l h]; simp

theorem sum_set (l : List Nat) (q x : Nat) (h : q < l.length) : (l.set q x).sum + l.getD q 0 = l.sum + x := by
  induction l generalizing q with
  | nil => simp at h
  | cons y l ih =>
    cases q with
    | zero => simp; omega
    | succ q =>
      have := ih q (by simpa using h)
      simp only [List.set_cons_succ, List.sum_cons, List.getD_cons_succ]; omega

/-- the small sum tells one -/
theorem tells_small (at_ : Int) (ms l : List UInt8) (h1 : (tur at_ ms l 4).2 = 1) : smallN (natl l) ≠ smallN (natl (tur at_ ms l 4).1) := by
  by_cases h : 0 ≤ at_ ∧ at_ < (l.length : Int)
  · obtain ⟨p, rfl⟩ := Int.eq_ofNat_of_zero_le h.1
    obtain ⟨q, hq, hl, hn, hall⟩ := tur_one p ms l 4 h1
    have hlen := tur_len (p : Int) ms l 4
    have e : (tur (p : Int) ms l 4).1 = l.set (p + q) (l.getD (p + q) 0 ^^^ ms.getD q 0) := by
      apply List.ext_getElem
      · simp [hlen]
      · intro i hi1 hi2
        have hg := tur_get p ms l 4 i
        rw [List.getD, List.getElem?_eq_getElem hi1] at hg
        simp only [Option.getD_some] at hg
        rw [hg]
        by_cases hi : i = p + q
        · subst hi
          rw [if_pos (by omega), List.getElem_set_self]
          simp
        · rw [List.getElem_set_ne (by omega)]
          have e1 : l.getD i 0 = l[i]'(by omega) := by rw [List.getD, List.getElem?_eq_getElem (by omega)]; rfl
          split
          · rename_i hc
            rw [hall (i - p) (by omega) (by omega) (by omega), e1]
            simp
          · exact e1
    rw [e, smallN_sum, smallN_sum]
    have en : natl (l.set (p + q) (l.getD (p + q) 0 ^^^ ms.getD q 0)) = (natl l).set (p + q) (l.getD (p + q) 0 ^^^ ms.getD q 0).toNat := by
      simp [natl, List.map_set]
    rw [en]
    have hs := sum_set (natl l) (p + q) (l.getD (p + q) 0 ^^^ ms.getD q 0).toNat (by simpa [natl] using hl)
    rw [getD_natl] at hs
    have hne : (l.getD (p + q) 0 ^^^ ms.getD q 0).toNat ≠ (l.getD (p + q) 0).toNat := by
      intro he
      have h2 := UInt8.toNat_inj.1 he
      have h3 : l.getD (p + q) 0 ^^^ (l.getD (p + q) 0 ^^^ ms.getD q 0) = l.getD (p + q) 0 ^^^ l.getD (p + q) 0 := by rw [h2]
      rw [← UInt8.xor_assoc, UInt8.xor_self, UInt8.zero_xor] at h3
      exact hn h3
    have b1 := (l.getD (p + q) 0 ^^^ ms.getD q 0).toNat_lt
    have b2 := (l.getD (p + q) 0).toNat_lt
    omega
  · rw [tur_out at_ ms l h] at h1; simp at h1
end Go.Proofs.YtddhcemdkhhikaaDoor.SumM
