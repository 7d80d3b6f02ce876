/- How formatted amounts stand in order. No program in sight. -/
import Derived.Test.YtlhfjiebhlhalaaDoorDecMath
namespace Go.Proofs.YtlhfjiebhlhalaaDoor.DecM
open Go.Lib

theorem fmtL_len (X q : Nat) : (fmtL X q).length = len X q + (if q = 0 then 0 else 1) := by
  unfold fmtL
  by_cases h : q = 0
  · rw [if_pos h, if_pos h, low_len, Nat.add_zero]
  · have := len_ge X q
    rw [if_neg h, if_neg h, List.length_append, List.length_cons, low_len, low_len]
    omega
theorem nd_mono {a b : Nat} (h : a ≤ b) : nDigits a ≤ nDigits b := by
  by_cases h1 : 1 < nDigits a
  · have h2 := nd_low a h1
    have h3 := lt_pow_nDigits b
    have h4 := (Nat.pow_lt_pow_iff_right (by decide : 1 < 10)).1 (Nat.lt_of_le_of_lt (Nat.le_trans h2 h) h3)
    omega
  · have := nDigits_pos a
    have := nDigits_pos b
    omega
theorem len_mono {a b q : Nat} (h : a ≤ b) : len a q ≤ len b q := by
  have := nd_mono h
  unfold len
  omega
theorem len_lt {a b q : Nat} (h : (fmtL a q).length ≠ (fmtL b q).length) : ((fmtL a q).length < (fmtL b q).length) ↔ a < b := by
  rw [fmtL_len, fmtL_len] at h ⊢
  rcases Nat.lt_or_ge a b with h1 | h1
  · have := len_mono (q := q) (Nat.le_of_lt h1)
    constructor <;> intro _ <;> omega
  · have := len_mono (q := q) h1
    constructor <;> intro _ <;> omega
/-- one text ahead of another, byte by byte -/
def less : List UInt8 → List UInt8 → Bool
  | [], [] => false
  | [], _ :: _ => true
  | _ :: _, [] => false
  | a :: l, b :: m => decide (a.toNat < b.toNat) || (decide (a.toNat = b.toNat) && less l m)
theorem less_append : ∀ (a b c d : List UInt8), a.length = b.length → less (a ++ c) (b ++ d) = (less a b || (decide (a = b) && less c d))
  | [], [], c, d, _ => by simp [less]
  | x :: a, y :: b, c, d, h => by
    have ih := less_append a b c d (by simpa using h)
    simp only [List.cons_append, less, ih]
    by_cases h1 : x.toNat = y.toNat
    · have hxy : x = y := UInt8.toNat_inj.1 h1
      subst hxy
      simp
    · have hxy : x ≠ y := fun e => h1 (by rw [e])
      simp [h1, hxy]
  | [], _ :: _, _, _, h => by simp at h
  | _ :: _, [], _, _, h => by simp at h
theorem low_inj : ∀ (n a b : Nat), a < 10 ^ n → b < 10 ^ n → low a n = low b n → a = b := by
  intro n a b ha hb h
  have := congrArg val h
  rw [val_low, val_low, Nat.mod_eq_of_lt ha, Nat.mod_eq_of_lt hb] at this
  exact this
theorem less_low : ∀ (n a b : Nat), a < 10 ^ n → b < 10 ^ n → less (low a n) (low b n) = decide (a < b)
  | 0, a, b, ha, hb => by
    have ea : a = 0 := by simpa using ha
    have eb : b = 0 := by simpa using hb
    subst ea eb
    rfl
  | n + 1, a, b, ha, hb => by
    rw [Nat.pow_succ] at ha hb
    have ih := less_low n (a / 10) (b / 10) (by omega) (by omega)
    rw [low, low, less_append _ _ _ _ (by rw [low_len, low_len]), ih]
    have hd1 := dgt_toNat (Nat.mod_lt a (by decide : 0 < 10))
    have hd2 := dgt_toNat (Nat.mod_lt b (by decide : 0 < 10))
    have hl : less [dgt (a % 10)] [dgt (b % 10)] = decide (a % 10 < b % 10) := by
      simp only [less, hd1, hd2, Bool.and_false, Bool.or_false, decide_eq_decide]
      omega
    have he : decide (low (a / 10) n = low (b / 10) n) = decide (a / 10 = b / 10) := by
      rw [decide_eq_decide]
      exact ⟨fun h => low_inj n _ _ (by omega) (by omega) h, fun h => by rw [h]⟩
    rw [hl, he, Bool.eq_iff_iff]
    simp
    omega
theorem fmtL_flat (X q : Nat) (h : q ≠ 0) : fmtL X q = low (X / 10 ^ q) (len X q - q) ++ 46 :: low X q := by unfold fmtL; rw [if_neg h]
theorem less_fmt {a b q : Nat} (h : (fmtL a q).length = (fmtL b q).length) : less (fmtL a q) (fmtL b q) = decide (a < b) ∧ (fmtL a q = fmtL b q ↔ a = b) := by
  have hl : len a q = len b q := by rw [fmtL_len, fmtL_len] at h; omega
  have la := lt_len a q
  have lb := lt_len b q
  rw [← hl] at lb
  have hp := len_ge a q
  by_cases hq : q = 0
  · have ea : fmtL a q = low a (len a q) := by unfold fmtL; rw [if_pos hq]
    have eb : fmtL b q = low b (len a q) := by unfold fmtL; rw [if_pos hq, hl]
    rw [ea, eb]
    exact ⟨less_low _ _ _ la lb, ⟨fun h => low_inj _ _ _ la lb h, fun h => by rw [h]⟩⟩
  · rw [fmtL_flat a q hq, fmtL_flat b q hq, ← hl]
    have key : ∀ x, x < 10 ^ len a q → low x (len a q) = low (x / 10 ^ q) (len a q - q) ++ low x q := fun x _ => by
      rw [← low_append]; congr 1; omega
    have h1 : less (low (a / 10 ^ q) (len a q - q) ++ 46 :: low a q) (low (b / 10 ^ q) (len a q - q) ++ 46 :: low b q) = less (low a (len a q)) (low b (len a q)) := by
      rw [key a la, key b lb, less_append _ _ _ _ (by rw [low_len, low_len]), less_append _ _ _ _ (by rw [low_len, low_len])]
      simp [less]
    refine ⟨by rw [h1]; exact less_low _ _ _ la lb, ⟨fun h => ?_, fun h => by rw [h]⟩⟩
    have h2 := List.append_inj h (by rw [low_len, low_len])
    have h3 : low a q = low b q := by simpa using h2.2
    refine low_inj (len a q) a b la lb ?_
    rw [key a la, key b lb, h2.1, h3]
end Go.Proofs.YtlhfjiebhlhalaaDoor.DecM
