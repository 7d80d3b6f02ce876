/- Exact amounts: what the calls of layer 1 compute, in plain numbers; long division of two words by one. No program in sight. -/
import Derived.KernelRfl
set_option linter.unusedSimpArgs false
set_option linter.unusedVariables false
namespace Go.Proofs.YtckcnenhnniogaaDoor.FixpM

/-- is it an amount? -/
def fits (x : Int) : Bool := decide (-4611686018427387904 ≤ x ∧ x ≤ 4611686018427387904)
/-- an amount and OK, or nought and ErrOver -/
def okv (x : Int) : Int × Int := if fits x then (x, 0) else (0, 4)
def addF (a b : Int) : Int × Int := if fits a && fits b then okv (a + b) else (0, 4)
def subF (a b : Int) : Int × Int := if fits a && fits b then okv (a - b) else (0, 4)
def mulF (a b : Int) : Int × Int := if fits a && fits b then okv (a * b) else (0, 4)
/-- a quotient's size is rounded up -/
def grows (neg : Bool) (mode : Int) : Bool := decide (mode = 3) || decide (mode = 1) && !neg || decide (mode = 0) && neg
def rndN (n c : Nat) (neg : Bool) (mode : Int) : Nat := n / c + if decide (0 < n % c) && grows neg mode then 1 else 0
def sgn (neg : Bool) (q : Nat) : Int := if neg then -(q : Int) else (q : Int)
/-- n / c, rounded -/
def rnd (n c mode : Int) : Int := sgn (decide (n < 0) != decide (c < 0)) (rndN n.natAbs c.natAbs (decide (n < 0) != decide (c < 0)) mode)
def mulDivF (a b c mode : Int) : Int × Int :=
  if fits a && fits b && fits c then (if c = 0 ∨ mode < 0 ∨ 3 < mode then (0, 1) else okv (rnd (a * b) c mode)) else (0, 4)

theorem fits_iff (x : Int) : fits x = true ↔ -4611686018427387904 ≤ x ∧ x ≤ 4611686018427387904 := by simp [fits]
theorem fits_abs (x : Int) : fits x = decide (x.natAbs ≤ 4611686018427387904) := by
  rw [Bool.eq_iff_iff, fits_iff, decide_eq_true_eq]; omega
theorem fits_neg (x : Int) : fits (-x) = fits x := by rw [fits_abs, fits_abs, Int.natAbs_neg]

/-- the sign as the code reckons it -/
def signOf (a b c : Int) : Bool := (decide (a < 0) != decide (b < 0)) != decide (c < 0)
theorem mul_neg_iff (a b : Int) (h : a * b ≠ 0) : decide (a * b < 0) = (decide (a < 0) != decide (b < 0)) := by
  have ha : a ≠ 0 := fun e => h (by rw [e, Int.zero_mul])
  have hb : b ≠ 0 := fun e => h (by rw [e, Int.mul_zero])
  rcases Int.lt_or_gt_of_ne ha with h1 | h1 <;> rcases Int.lt_or_gt_of_ne hb with h2 | h2
  · have := Int.mul_pos_of_neg_of_neg h1 h2
    have e1 : decide (a * b < 0) = false := by simp; omega
    simp [h1, h2, e1]
  · have := Int.mul_neg_of_neg_of_pos h1 h2
    have e1 : decide (b < 0) = false := by simp; omega
    simp [h1, this, e1]
  · have := Int.mul_neg_of_pos_of_neg h1 h2
    have e1 : decide (a < 0) = false := by simp; omega
    simp [h2, this, e1]
  · have := Int.mul_pos h1 h2
    have e1 : decide (a * b < 0) = false := by simp; omega
    have e2 : decide (a < 0) = false := by simp; omega
    have e3 : decide (b < 0) = false := by simp; omega
    rw [e1, e2, e3]; rfl

/-- the code's sign and sizes give the rounded quotient -/
theorem rnd_code (a b c mode : Int) : rnd (a * b) c mode = sgn (signOf a b c) (rndN (a.natAbs * b.natAbs) c.natAbs (signOf a b c) mode) := by
  unfold rnd
  rw [Int.natAbs_mul]
  by_cases h : a * b = 0
  · have h0 : a.natAbs * b.natAbs = 0 := by rw [← Int.natAbs_mul, h]; rfl
    rw [h0]
    have e : ∀ (neg : Bool), sgn neg (rndN 0 c.natAbs neg mode) = 0 := by
      intro neg
      have : rndN 0 c.natAbs neg mode = 0 := by simp [rndN]
      rw [this]; unfold sgn; split <;> rfl
    rw [e, e]
  · have : (decide (a * b < 0) != decide (c < 0)) = signOf a b c := by rw [mul_neg_iff a b h]; rfl
    rw [this]
theorem okv_sgn (neg : Bool) (q : Nat) : okv (sgn neg q) = if q ≤ 4611686018427387904 then (sgn neg q, 0) else (0, 4) := by
  unfold okv
  have : fits (sgn neg q) = decide (q ≤ 4611686018427387904) := by
    rw [fits_abs]; unfold sgn; split <;> simp
  rw [this]
  by_cases h : q ≤ 4611686018427387904 <;> simp [h]
theorem mul_sgn (a b : Int) : a * b = sgn (decide (a < 0) != decide (b < 0)) (a.natAbs * b.natAbs) := by
  by_cases h : a * b = 0
  · have h0 : a.natAbs * b.natAbs = 0 := by rw [← Int.natAbs_mul, h]; rfl
    rw [h0, h]; unfold sgn; split <;> rfl
  · rw [← mul_neg_iff a b h, ← Int.natAbs_mul]
    unfold sgn
    split
    · rename_i h1; simp at h1; omega
    · rename_i h1; simp at h1; omega
theorem add_sgn (a b : Int) (h : decide (a < 0) = decide (b < 0)) : a + b = sgn (decide (a < 0)) (a.natAbs + b.natAbs) := by
  unfold sgn
  by_cases ha : a < 0
  · have hb : b < 0 := by simpa [ha] using h.symm
    rw [if_pos (by simpa using ha)]; omega
  · have hb : ¬ b < 0 := by
      intro hb; simp [ha, hb] at h
    rw [if_neg (by simpa using ha)]; omega

/-! ### a digit of a quotient, estimated and put right -/
/-- the digit that is sought -/
def dig (B v u c : Nat) : Nat := (u * B + c) / v
theorem dig_lt {B v u c : Nat} (hu : u < v) (hc : c < B) : dig B v u c < B := by
  unfold dig
  rw [Nat.div_lt_iff_lt_mul (by omega)]
  have h1 : u * B + B ≤ v * B := by rw [← Nat.succ_mul]; exact Nat.mul_le_mul_right B hu
  rw [Nat.mul_comm B v]; omega
theorem dig_le_est {B v v1 v0 u c q r : Nat} (hv : v = v1 * B + v0) (hB : 0 < B) (hv1 : 0 < v1) (hc : c < B) (hq : u = q * v1 + r) (hr : r < v1) : dig B v u c ≤ q := by
  have hvp : 0 < v := by rw [hv]; have := Nat.mul_pos hv1 hB; omega
  have h1 : dig B v u c * v ≤ u * B + c := Nat.div_mul_le_self _ _
  apply Classical.byContradiction
  intro hn
  have h2 : q + 1 ≤ dig B v u c := by omega
  have h3 : (q + 1) * v ≤ u * B + c := Nat.le_trans (Nat.mul_le_mul_right v h2) h1
  have h4 : (q + 1) * (v1 * B) ≤ (q + 1) * v := Nat.mul_le_mul_left _ (by omega)
  have h5 : (u + 1) * B ≤ (q + 1) * (v1 * B) := by
    rw [← Nat.mul_assoc]
    refine Nat.mul_le_mul_right B ?_
    rw [Nat.add_mul, hq]; omega
  have h6 : (u + 1) * B = u * B + B := Nat.succ_mul u B
  omega
theorem over_of_test {B v v1 v0 u c q r : Nat} (hv : v = v1 * B + v0) (hvp : 0 < v) (hq : u = q * v1 + r) (h : B * r + c < q * v0) : dig B v u c < q := by
  unfold dig
  rw [Nat.div_lt_iff_lt_mul hvp, hv, Nat.mul_add, hq, Nat.add_mul, ← Nat.mul_assoc, Nat.mul_comm r B]
  omega
theorem le_of_test {B v v1 v0 u c q r : Nat} (hv : v = v1 * B + v0) (hvp : 0 < v) (hq : u = q * v1 + r) (h : q * v0 ≤ B * r + c) : q ≤ dig B v u c := by
  unfold dig
  rw [Nat.le_div_iff_mul_le hvp, hv, Nat.mul_add, hq, Nat.add_mul, ← Nat.mul_assoc, Nat.mul_comm r B]
  omega
theorem est_le {B v v1 v0 u q r : Nat} (hv : v = v1 * B + v0) (h0 : v0 < B) (hB : B ≤ 2 * v1) (hu : u < v) (hq : u = q * v1 + r) : q ≤ B + 1 := by
  apply Classical.byContradiction
  intro hn
  have h2 : B + 2 ≤ q := by omega
  have h3 : (B + 2) * v1 ≤ q * v1 := Nat.mul_le_mul_right v1 h2
  have h4 : (B + 2) * v1 = v1 * B + 2 * v1 := by rw [Nat.add_mul, Nat.mul_comm B v1]
  omega

theorem div_parts (y' q1 u1 u B c1 c0 : Nat) (hy : 0 < y') (h1 : q1 = (u * B + c1) / y') (h2 : u1 = (u * B + c1) % y') :
    (u * (B * B) + c1 * B + c0) / y' = q1 * B + (u1 * B + c0) / y' ∧ (u * (B * B) + c1 * B + c0) % y' = (u1 * B + c0) % y' := by
  have e : u * (B * B) + c1 * B + c0 = u1 * B + c0 + y' * (q1 * B) := by
    have h3 := Nat.div_add_mod (u * B + c1) y'
    rw [← h1, ← h2] at h3
    have h4 : (y' * q1 + u1) * B = (u * B + c1) * B := by rw [h3]
    rw [Nat.add_mul, Nat.add_mul, Nat.mul_assoc, Nat.mul_assoc] at h4
    omega
  rw [e, Nat.add_mul_div_left _ _ hy, Nat.add_mul_mod_self_left]
  exact ⟨Nat.add_comm _ _, rfl⟩
end Go.Proofs.YtckcnenhnniogaaDoor.FixpM
