/- Amounts as texts: digits, what Format answers, how texts stand in order. No program in sight. -/
import Derived.Lib.ItoaNum
import Derived.Lib.Repeat
set_option linter.unusedSimpArgs false
set_option linter.unusedVariables false
namespace Go.Proofs.YtckcnenhnniogaaDoor.DecM
open Go.Lib

def dgt (d : Nat) : UInt8 := UInt8.ofNat (48 + d)
/-- the n lowest digits of a number, the highest ahead -/
def low : Nat → Nat → List UInt8
  | _, 0 => []
  | x, n + 1 => low (x / 10) n ++ [dgt (x % 10)]
theorem low_len : ∀ (n x : Nat), (low x n).length = n
  | 0, _ => rfl
  | n + 1, x => by simp [low, low_len n]
theorem low_cons : ∀ (n x : Nat), low x (n + 1) = dgt (x / 10 ^ n % 10) :: low x n
  | 0, x => by simp [low]
  | n + 1, x => by
    rw [low, low_cons n (x / 10)]
    rw [Nat.div_div_eq_div_mul, Nat.mul_comm 10, ← Nat.pow_succ]
    rfl
theorem low_append : ∀ (p x m : Nat), low x (m + p) = low (x / 10 ^ p) m ++ low x p
  | 0, x, m => by simp [low]
  | p + 1, x, m => by
    rw [show m + (p + 1) = (m + p) + 1 by omega, low, low_append p (x / 10) m, low, Nat.div_div_eq_div_mul, Nat.mul_comm 10, ← Nat.pow_succ, List.append_assoc]
theorem low_zero : ∀ n, low 0 n = List.replicate n 48
  | 0 => rfl
  | n + 1 => by rw [low, Nat.zero_div, low_zero n, List.replicate_succ']; rfl
theorem dec_low (x : Nat) : decDigits x = low x (nDigits x) := by
  induction x using Nat.strongRecOn with
  | _ x ih =>
    by_cases h : x < 10
    · rw [decDigits, dif_pos h, nDigits_small h]
      simp [low, dgt, Nat.mod_eq_of_lt h]
    · rw [decDigits, dif_neg h, nDigits_big h, low, ih (x / 10) (by omega)]
      rfl
theorem nd_low (x : Nat) (h : 1 < nDigits x) : 10 ^ (nDigits x - 1) ≤ x := by
  induction x using Nat.strongRecOn with
  | _ x ih =>
    by_cases h1 : x < 10
    · rw [nDigits_small h1] at h; omega
    · rw [nDigits_big h1] at h ⊢
      rw [Nat.add_sub_cancel]
      by_cases h2 : 1 < nDigits (x / 10)
      · have := ih (x / 10) (by omega) h2
        rw [show nDigits (x / 10) = (nDigits (x / 10) - 1) + 1 by omega, Nat.pow_succ]
        omega
      · have := nDigits_pos (x / 10)
        rw [show nDigits (x / 10) = 1 by omega]
        omega
theorem low_pad (x k n : Nat) (h : x < 10 ^ n) : low x (k + n) = List.replicate k 48 ++ low x n := by
  rw [low_append, Nat.div_eq_of_lt h, low_zero]
/-- how many digits stand -/
def len (x p : Nat) : Nat := max (p + 1) (nDigits x)
theorem len_ge (x p : Nat) : p + 1 ≤ len x p := Nat.le_max_left _ _
theorem len_nd (x p : Nat) : nDigits x ≤ len x p := Nat.le_max_right _ _
theorem lt_len (x p : Nat) : x < 10 ^ len x p := Nat.lt_of_lt_of_le (lt_pow_nDigits x) (Nat.pow_le_pow_right (by decide) (len_nd x p))
/-- an amount from nought on -/
def fmtL (x p : Nat) : List UInt8 := if p = 0 then low x (len x p) else low (x / 10 ^ p) (len x p - p) ++ 46 :: low x p
def fmtF (x : Int) (p : Nat) : List UInt8 := (if x < 0 then [45] else []) ++ fmtL x.natAbs p
theorem pad_eq (x p : Nat) (h : nDigits x ≤ p) : repeatL [48] (p + 1 - nDigits x) ++ decDigits x = low x (len x p) := by
  have hr := repeatL_replicate 48 1 (p + 1 - nDigits x)
  rw [Nat.mul_one] at hr
  have hl : len x p = (p + 1 - nDigits x) + nDigits x := by unfold len; omega
  rw [hl, low_pad _ _ _ (lt_pow_nDigits x), ← dec_low]
  congr 1
theorem nopad_eq (x p : Nat) (h : p < nDigits x) : decDigits x = low x (len x p) := by
  have hl : len x p = nDigits x := by unfold len; omega
  rw [hl, dec_low]
theorem fmt_split (x p : Nat) (h : p ≠ 0) : (low x (len x p)).take (len x p - p) ++ 46 :: (low x (len x p)).drop (len x p - p) = fmtL x p := by
  have := len_ge x p
  unfold fmtL
  rw [if_neg h]
  have e : low x (len x p) = low (x / 10 ^ p) (len x p - p) ++ low x p := by
    rw [← low_append]; congr 1; omega
  rw [e, List.take_left' (low_len _ _), List.drop_left' (low_len _ _)]
/-- what the document has behind n digits -/
def outL (x p n : Nat) : List UInt8 := if n ≤ p ∨ p = 0 then low x n else low (x / 10 ^ p) (n - p) ++ 46 :: low x p
theorem outL_end (x p : Nat) : outL x p (len x p) = fmtL x p := by
  have := len_ge x p
  unfold outL fmtL
  by_cases h : p = 0
  · rw [if_pos (.inr h), if_pos h]
  · rw [if_neg (by omega), if_neg h]
theorem outL_zero (x p : Nat) : outL x p 0 = [] := by simp [outL, low]
theorem outL_succ (x p n : Nat) : outL x p (n + 1) = dgt (x / 10 ^ n % 10) :: (if n = p ∧ 0 < p then 46 :: outL x p n else outL x p n) := by
  unfold outL
  by_cases h0 : p = 0
  · subst h0
    simp [low_cons]
  · by_cases h1 : n + 1 ≤ p
    · rw [if_pos (.inl h1), if_neg (by omega), if_pos (by omega), low_cons]
    · rw [if_neg (by omega)]
      by_cases h2 : n = p
      · subst h2
        rw [if_pos ⟨rfl, by omega⟩, if_pos (.inl (Nat.le_refl _)), show n + 1 - n = 1 by omega]
        simp [low]
      · rw [if_neg (fun h => h2 h.1), if_neg (by omega), show n + 1 - p = (n - p) + 1 by omega, low_cons, Nat.div_div_eq_div_mul, ← Nat.pow_add, show p + (n - p) = n by omega]
        rfl
theorem more_lt (x p n : Nat) (h : n ≤ p ∨ 0 < x / 10 ^ n) : n < len x p := by
  have h1 := len_ge x p
  have h2 := len_nd x p
  rcases h with h | h
  · omega
  · have h3 : 10 ^ n ≤ x := by
      rcases Nat.lt_or_ge x (10 ^ n) with h4 | h4
      · rw [Nat.div_eq_of_lt h4] at h; omega
      · exact h4
    have h5 := Nat.lt_of_le_of_lt h3 (lt_pow_nDigits x)
    have := (Nat.pow_lt_pow_iff_right (by decide : 1 < 10)).1 h5
    omega
theorem stop_len (x p n : Nat) (h1 : p < n) (h2 : x / 10 ^ n = 0) (h3 : n ≤ len x p) : n = len x p := by
  have h4 : x < 10 ^ n := by
    rcases Nat.lt_or_ge x (10 ^ n) with h | h
    · exact h
    · have := Nat.div_pos h (Nat.pow_pos (by decide : 0 < 10)); omega
  have h5 : nDigits x ≤ n := by
    by_cases h6 : 1 < nDigits x
    · have := nd_low x h6
      have := (Nat.pow_lt_pow_iff_right (by decide : 1 < 10)).1 (Nat.lt_of_le_of_lt this h4)
      omega
    · omega
  unfold len at h3 ⊢
  omega
theorem dgt_toNat {d : Nat} (h : d < 10) : (dgt d).toNat = 48 + d := by
  unfold dgt
  rw [UInt8.toNat_ofNat']
  omega

/-! ### the value of digits -/
def valA (a : Nat) (l : List UInt8) : Nat := l.foldl (fun a b => a * 10 + (b.toNat - 48)) a
theorem valA_nil (a : Nat) : valA a [] = a := rfl
theorem valA_cons (a : Nat) (b : UInt8) (l : List UInt8) : valA a (b :: l) = valA (a * 10 + (b.toNat - 48)) l := by unfold valA; rw [List.foldl_cons]
def val (l : List UInt8) : Nat := valA 0 l
theorem valA_append (a : Nat) (l m : List UInt8) : valA a (l ++ m) = valA (valA a l) m := by unfold valA; rw [List.foldl_append]
theorem valA_eq : ∀ (l : List UInt8) (a : Nat), valA a l = a * 10 ^ l.length + val l
  | [], a => by simp [valA_nil, val]
  | b :: l, a => by
    have e : val (b :: l) = (b.toNat - 48) * 10 ^ l.length + val l := by
      unfold val
      rw [valA_cons, valA_eq l, Nat.zero_mul, Nat.zero_add]
      rfl
    rw [valA_cons, valA_eq l, e, List.length_cons, Nat.pow_succ, Nat.add_mul, Nat.mul_assoc, Nat.mul_comm 10]
    omega
theorem val_append (l m : List UInt8) : val (l ++ m) = val l * 10 ^ m.length + val m := by
  unfold val
  rw [valA_append, valA_eq m]; rfl
theorem val_snoc (l : List UInt8) (b : UInt8) : val (l ++ [b]) = val l * 10 + (b.toNat - 48) := by
  rw [val_append]; simp [val, valA_cons, valA_nil]
theorem val_nil : val [] = 0 := rfl
def isD (b : UInt8) : Bool := decide (48 ≤ b.toNat ∧ b.toNat ≤ 57)
theorem isD_iff {b : UInt8} : isD b = true ↔ 48 ≤ b.toNat ∧ b.toNat ≤ 57 := by simp [isD]
theorem isD_dgt {d : Nat} (h : d < 10) : isD (dgt d) = true := by rw [isD_iff, dgt_toNat h]; omega
theorem dgt_of {b : UInt8} (h : isD b = true) : dgt (b.toNat - 48) = b := by
  rw [isD_iff] at h
  apply UInt8.toNat_inj.1
  rw [dgt_toNat (by omega)]; omega
theorem snoc_ind {p : List UInt8 → Prop} (h0 : p []) (h1 : ∀ l b, p l → p (l ++ [b])) (l : List UInt8) : p l := by
  have : ∀ n (l : List UInt8), l.length = n → p l := by
    intro n
    induction n with
    | zero => intro l hl; rw [List.eq_nil_of_length_eq_zero hl]; exact h0
    | succ n ih =>
      intro l hl
      have hne : l ≠ [] := by rintro rfl; simp at hl
      rw [← List.dropLast_concat_getLast hne]
      exact h1 _ _ (ih _ (by simp; omega))
  exact this _ _ rfl
theorem low_digits : ∀ (n x : Nat), (low x n).all isD = true
  | 0, _ => rfl
  | n + 1, x => by rw [low, List.all_append, low_digits n]; simp [isD_dgt (Nat.mod_lt x (by decide : 0 < 10))]
theorem val_low : ∀ (n x : Nat), val (low x n) = x % 10 ^ n
  | 0, x => by simp [low, val, valA_nil, Nat.mod_one]
  | n + 1, x => by
    rw [low, val_snoc, val_low n, dgt_toNat (Nat.mod_lt x (by decide : 0 < 10)), Nat.pow_succ, Nat.mul_comm (10 ^ n) 10, Nat.mod_mul]
    omega
theorem val_lt (l : List UInt8) (h : l.all isD = true) : val l < 10 ^ l.length := by
  induction l using snoc_ind with
  | h0 => simp [val, valA_nil]
  | h1 l b ih =>
    rw [List.all_append, Bool.and_eq_true] at h
    have := ih h.1
    have hb : isD b = true := by simpa using h.2
    rw [isD_iff] at hb
    rw [val_snoc, List.length_append, List.length_singleton, Nat.pow_succ]
    omega
theorem low_val (l : List UInt8) (h : l.all isD = true) : low (val l) l.length = l := by
  induction l using snoc_ind with
  | h0 => rfl
  | h1 l b ih =>
    rw [List.all_append, Bool.and_eq_true] at h
    have hb : isD b = true := by simpa using h.2
    have hb' := isD_iff.1 hb
    rw [List.length_append, List.length_singleton, low, val_snoc]
    rw [show (val l * 10 + (b.toNat - 48)) / 10 = val l by omega, show (val l * 10 + (b.toNat - 48)) % 10 = b.toNat - 48 by omega, ih h.1, dgt_of hb]
theorem val_zeros (k : Nat) : val (List.replicate k 48) = 0 := by rw [← low_zero, val_low]; simp
theorem val_cons (b : UInt8) (l : List UInt8) : val (b :: l) = (b.toNat - 48) * 10 ^ l.length + val l := by
  have := val_append [b] l
  simpa [val, valA_cons, valA_nil] using this
theorem nd_val (l : List UInt8) (h : l.all isD = true) (h0 : l ≠ []) (h1 : l.length = 1 ∨ l.head? ≠ some 48) : nDigits (val l) = l.length := by
  match l, h0 with
  | b :: l, _ =>
    rw [List.all_cons, Bool.and_eq_true] at h
    have hb := isD_iff.1 h.1
    have hv := val_lt l h.2
    rw [val_cons]
    by_cases hl : l = []
    · subst hl
      rw [nDigits_small (by simp [val, valA_nil]; omega)]; rfl
    · have hlen : 0 < l.length := List.length_pos_iff.2 hl
      have hne : b.toNat ≠ 48 := by
        rcases h1 with h1 | h1
        · simp at h1; exact absurd h1 hl
        · intro e; apply h1; simp; exact UInt8.toNat_inj.1 (by rw [e]; rfl)
      rw [List.length_cons]
      refine nDigits_unique _ _ ?_ ?_
      · have : 1 * 10 ^ l.length ≤ (b.toNat - 48) * 10 ^ l.length := Nat.mul_le_mul_right _ (by omega)
        omega
      · have : (b.toNat - 48) * 10 ^ l.length ≤ 9 * 10 ^ l.length := Nat.mul_le_mul_right _ (by omega)
        rw [Nat.pow_succ]
        omega
end Go.Proofs.YtckcnenhnniogaaDoor.DecM
