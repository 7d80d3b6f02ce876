/- The plain law of the sums: the table's CRC is the bitwise CRC; a burst of up to four bytes turns it. No program in sight. -/
import Derived.KernelRfl
set_option linter.unusedSimpArgs false
set_option linter.unusedVariables false
namespace Go.Proofs.YtckcnenhnniogaaDoor.SumM

def half : List Nat := [0, 498536548, 997073096, 651767980, 1994146192, 1802195444, 1303535960, 1342533948, 3988292384, 4027552580, 3604390888, 3412177804, 2607071920, 2262029012, 2685067896, 3183342108]
/-- four bits by the table -/
def nib (r : Nat) : Nat := r / 16 ^^^ half.getD (r % 16) 0
/-- one bit by definition -/
def bitS (r : Nat) : Nat := if r % 2 = 1 then r / 2 ^^^ 3988292384 else r / 2
def iter (f : Nat → Nat) : Nat → Nat → Nat
  | 0, r => r
  | n + 1, r => f (iter f n r)
def T (r : Nat) : Nat := nib (nib r)
def crcS (s : Nat) (l : List Nat) : Nat := l.foldl (fun r x => T (r ^^^ x)) s
def crcN (l : List Nat) : Nat := crcS 4294967295 l ^^^ 4294967295
def smallN (l : List Nat) : Nat := l.foldl (fun n x => (n + x) % 256) 0

theorem xor_div2 (a b : Nat) : (a ^^^ b) / 2 = a / 2 ^^^ b / 2 := by
  have := @Nat.xor_div_two_pow a b 1
  simpa using this
theorem xor_mod2 (a b : Nat) : (a ^^^ b) % 2 = (a % 2 + b % 2) % 2 := by
  have h := @Nat.xor_mod_two_pow a b 1
  simp at h
  rw [h]
  rcases Nat.mod_two_eq_zero_or_one a with ha | ha <;> rcases Nat.mod_two_eq_zero_or_one b with hb | hb <;> rw [ha, hb] <;> rfl

theorem bitS_xor (a b : Nat) : bitS (a ^^^ b) = bitS a ^^^ bitS b := by
  unfold bitS
  rw [xor_mod2, xor_div2]
  rcases Nat.mod_two_eq_zero_or_one a with ha | ha <;> rcases Nat.mod_two_eq_zero_or_one b with hb | hb <;> simp only [ha, hb, Nat.reduceAdd, Nat.reduceMod, if_true, if_false, Nat.zero_ne_one]
  · rw [Nat.xor_assoc]
  · rw [Nat.xor_assoc, Nat.xor_assoc, Nat.xor_comm 3988292384 (b / 2)]
  · rw [Nat.xor_assoc, ← Nat.xor_assoc 3988292384, Nat.xor_comm 3988292384 (b / 2), Nat.xor_assoc, Nat.xor_self, Nat.xor_zero]

theorem bitS_even (q : Nat) : bitS (2 * q) = q := by
  unfold bitS
  rw [if_neg (by omega)]; omega

theorem split16 (r : Nat) : r = 16 * (r / 16) ^^^ r % 16 := by
  apply Nat.eq_of_testBit_eq
  intro i
  have h16 : (16 : Nat) = 2 ^ 4 := rfl
  rw [Nat.testBit_xor, h16, Nat.testBit_two_pow_mul, Nat.testBit_div_two_pow, Nat.testBit_mod_two_pow]
  by_cases h : i < 4
  · have h4 : ¬ 4 ≤ i := by omega
    simp [h, h4]
  · have h4 : 4 ≤ i := by omega
    simp [h, h4, Nat.sub_add_cancel h4]

theorem nib_bits (r : Nat) : nib r = bitS (bitS (bitS (bitS r))) := by
  have e : bitS (bitS (bitS (bitS r))) = bitS (bitS (bitS (bitS (16 * (r / 16))))) ^^^ bitS (bitS (bitS (bitS (r % 16)))) := by
    conv => lhs; rw [split16 r]
    simp only [bitS_xor]
  rw [e]
  unfold nib
  congr 1
  · rw [show 16 * (r / 16) = 2 * (2 * (2 * (2 * (r / 16)))) by omega]
    simp only [bitS_even]
  · have hlt : r % 16 < 16 := Nat.mod_lt _ (by omega)
    generalize r % 16 = q at hlt ⊢
    have : ∀ q, q < 16 → half.getD q 0 = bitS (bitS (bitS (bitS q))) := by decide
    exact this q hlt

theorem nib_xor (a b : Nat) : nib (a ^^^ b) = nib a ^^^ nib b := by simp only [nib_bits, bitS_xor]
theorem T_xor (a b : Nat) : T (a ^^^ b) = T a ^^^ T b := by simp only [T, nib_xor]
theorem T_bits (r : Nat) : T r = iter bitS 8 r := by simp only [T, nib_bits, iter]

theorem bitS_lt (r : Nat) (h : r < 4294967296) : bitS r < 4294967296 := by
  unfold bitS
  split
  · exact Nat.xor_lt_two_pow (n := 32) (by omega) (by omega)
  · omega
theorem nib_lt (r : Nat) (h : r < 4294967296) : nib r < 4294967296 := by
  rw [nib_bits]; exact bitS_lt _ (bitS_lt _ (bitS_lt _ (bitS_lt _ h)))
theorem T_lt (r : Nat) (h : r < 4294967296) : T r < 4294967296 := nib_lt _ (nib_lt _ h)

theorem bitS_ne (r : Nat) (h : r < 4294967296) (h0 : r ≠ 0) : bitS r ≠ 0 := by
  unfold bitS
  split
  · intro e
    have h2 : r / 2 ^^^ 3988292384 ^^^ 3988292384 = 0 ^^^ 3988292384 := by rw [e]
    rw [Nat.xor_assoc, Nat.xor_self, Nat.xor_zero, Nat.zero_xor] at h2
    omega
  · omega
theorem nib_ne (r : Nat) (h : r < 4294967296) (h0 : r ≠ 0) : nib r ≠ 0 := by
  rw [nib_bits]
  exact bitS_ne _ (bitS_lt _ (bitS_lt _ (bitS_lt _ h))) (bitS_ne _ (bitS_lt _ (bitS_lt _ h)) (bitS_ne _ (bitS_lt _ h) (bitS_ne _ h h0)))
theorem T_ne (r : Nat) (h : r < 4294967296) (h0 : r ≠ 0) : T r ≠ 0 := nib_ne _ (nib_lt _ h) (nib_ne _ h h0)
theorem T_zero : T 0 = 0 := by decide
theorem T_shift (y : Nat) : T (256 * y) = y := by
  rw [T_bits, show 256 * y = 2 * (2 * (2 * (2 * (2 * (2 * (2 * (2 * y))))))) by omega]
  simp only [iter, bitS_even]

theorem crcS_lt (l : List Nat) (hl : ∀ x ∈ l, x < 256) : ∀ s, s < 4294967296 → crcS s l < 4294967296 := by
  induction l with
  | nil => intro s h; exact h
  | cons x l ih =>
    intro s h
    exact ih (fun y hy => hl y (List.mem_cons_of_mem _ hy)) _ (T_lt _ (Nat.xor_lt_two_pow (n := 32) h (by have := hl x (List.mem_cons_self); omega)))

/-- the difference of two readings is the reading of the differences -/
theorem crcS_xor : ∀ (l m : List Nat) (_ : l.length = m.length) (s t : Nat), crcS s l ^^^ crcS t m = crcS (s ^^^ t) (List.zipWith (· ^^^ ·) l m)
  | [], [], _, s, t => rfl
  | x :: l, y :: m, h, s, t => by
    have ih := crcS_xor l m (by simpa using h) (T (s ^^^ x)) (T (t ^^^ y))
    simp only [crcS, List.foldl_cons, List.zipWith_cons_cons] at ih ⊢
    rw [ih]
    congr 1
    rw [← T_xor]
    congr 1
    rw [Nat.xor_assoc, Nat.xor_assoc, ← Nat.xor_assoc x, Nat.xor_comm x t, Nat.xor_assoc]

/-- a burst as one number -/
def word : List Nat → Nat
  | [] => 0
  | m :: ms => m ^^^ 256 * word ms

theorem word_add (m y : Nat) (h : m < 256) : m ^^^ 256 * y = m + 256 * y := by
  have e : (m + 256 * y) = 256 * y + m := by omega
  have h16 : (256 : Nat) = 2 ^ 8 := rfl
  rw [e]
  apply Nat.eq_of_testBit_eq
  intro i
  rw [Nat.testBit_xor, h16, Nat.testBit_two_pow_mul_add _ (by simpa using h), Nat.testBit_two_pow_mul]
  by_cases hi : i < 8
  · have : ¬ 8 ≤ i := by omega
    simp [hi, this]
  · have h8 : 8 ≤ i := by omega
    have : m.testBit i = false := Nat.testBit_lt_two_pow (Nat.lt_of_lt_of_le h (by
      have : (256 : Nat) = 2 ^ 8 := rfl
      rw [this]; exact Nat.pow_le_pow_right (by omega) h8))
    simp [hi, h8, this]

theorem word_lt : ∀ (ms : List Nat) (_ : ∀ m ∈ ms, m < 256), word ms < 256 ^ ms.length
  | [], _ => by simp [word]
  | m :: ms, h => by
    have hm := h m List.mem_cons_self
    have ih := word_lt ms (fun y hy => h y (List.mem_cons_of_mem _ hy))
    rw [word, word_add _ _ hm, List.length_cons, Nat.pow_succ]
    omega

theorem word_zero : ∀ (ms : List Nat) (_ : ∀ m ∈ ms, m < 256), word ms = 0 → ∀ m ∈ ms, m = 0
  | [], _, _ => by simp
  | m :: ms, h, e => by
    have hm := h m List.mem_cons_self
    rw [word, word_add _ _ hm] at e
    have h1 : m = 0 := by omega
    have h2 : word ms = 0 := by omega
    intro y hy
    rcases List.mem_cons.1 hy with rfl | hy
    · exact h1
    · exact word_zero ms (fun y hy => h y (List.mem_cons_of_mem _ hy)) h2 y hy

theorem crcS_word : ∀ (ms : List Nat) (s : Nat), crcS s ms = iter T ms.length (s ^^^ word ms)
  | [], s => by simp [crcS, iter, word]
  | m :: ms, s => by
    have ih := crcS_word ms (T (s ^^^ m))
    have comm : ∀ n x, iter T n (T x) = T (iter T n x) := by
      intro n; induction n with
      | zero => intro x; rfl
      | succ n ih => intro x; simp only [iter, ih]
    simp only [crcS, List.foldl_cons] at ih ⊢
    rw [ih]
    have e : T (s ^^^ m) ^^^ word ms = T (s ^^^ word (m :: ms)) := by
      conv => lhs; rw [← T_shift (word ms)]
      rw [← T_xor]; congr 1
      rw [word, Nat.xor_assoc]
    rw [e, comm]; rfl

theorem iterT_ne (n r : Nat) (h : r < 4294967296) (h0 : r ≠ 0) : iter T n r ≠ 0 ∧ iter T n r < 4294967296 := by
  induction n with
  | zero => exact ⟨h0, h⟩
  | succ n ih => exact ⟨T_ne _ ih.2 ih.1, T_lt _ ih.2⟩

theorem crcS_zeros (n s : Nat) : crcS s (List.replicate n 0) = iter T n s := by
  rw [crcS_word]
  have : ∀ n, word (List.replicate n 0) = 0 := by
    intro n; induction n with
    | zero => rfl
    | succ n ih => simp [List.replicate_succ, word, ih]
  rw [this]; simp

theorem crcS_append (l m : List Nat) (s : Nat) : crcS s (l ++ m) = crcS (crcS s l) m := by simp [crcS]

theorem iterT_zero (n : Nat) : iter T n 0 = 0 := by
  induction n with
  | zero => rfl
  | succ n ih => simp [iter, ih, T_zero]

/-- a burst of up to four bytes among noughts -/
theorem crcS_burst (k n : Nat) (ms : List Nat) (h : ∀ m ∈ ms, m < 256) (h4 : ms.length ≤ 4) :
    crcS 0 (List.replicate k 0 ++ ms ++ List.replicate n 0) = 0 ↔ ∀ m ∈ ms, m = 0 := by
  rw [crcS_append, crcS_append, crcS_zeros k, iterT_zero, crcS_zeros, crcS_word, Nat.zero_xor]
  constructor
  · intro e
    refine word_zero ms h ?_
    apply Classical.byContradiction
    intro hne
    have hlt : word ms < 4294967296 := Nat.lt_of_lt_of_le (word_lt ms h) (by
      have : (4294967296 : Nat) = 256 ^ 4 := rfl
      rw [this]; exact Nat.pow_le_pow_right (by omega) h4)
    have h1 := iterT_ne ms.length _ hlt hne
    exact (iterT_ne n _ h1.2 h1.1).1 e
  · intro hz
    have : word ms = 0 := by
      clear h h4
      induction ms with
      | nil => rfl
      | cons m ms ih =>
        simp only [word]
        rw [hz m List.mem_cons_self, ih (fun y hy => hz y (List.mem_cons_of_mem _ hy))]; rfl
    rw [this, iterT_zero, iterT_zero]

theorem smallN_from (l : List Nat) : ∀ s, l.foldl (fun n x => (n + x) % 256) s % 256 = (s + l.sum) % 256 := by
  induction l with
  | nil => intro s; simp
  | cons x l ih => intro s; rw [List.foldl_cons, ih]; simp only [List.sum_cons]; omega
theorem smallN_lt (l : List Nat) : smallN l < 256 := by
  have : ∀ (l : List Nat) s, s < 256 → l.foldl (fun n x => (n + x) % 256) s < 256 := by
    intro l; induction l with
    | nil => intro s h; exact h
    | cons x l ih => intro s _; exact ih _ (by show (s + x) % 256 < 256; omega)
  exact this l 0 (by omega)
theorem smallN_sum (l : List Nat) : smallN l = l.sum % 256 := by
  have h := smallN_from l 0
  have h2 := smallN_lt l
  unfold smallN at h2 ⊢
  omega

end Go.Proofs.YtckcnenhnniogaaDoor.SumM
