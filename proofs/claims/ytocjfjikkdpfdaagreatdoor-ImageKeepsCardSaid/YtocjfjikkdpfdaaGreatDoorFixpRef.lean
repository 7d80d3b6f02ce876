/- The document's own answers of layer 1: the walks. -/
import Derived.Test.YtocjfjikkdpfdaaGreatDoorFixpMulDiv
set_option linter.unusedSimpArgs false
set_option linter.unusedVariables false
namespace Go.Proofs.YtocjfjikkdpfdaaGreatDoor.FixpR
open Go.RowKit Go.Proofs.YtocjfjikkdpfdaaGreatDoor.Bas Go.Proofs.YtocjfjikkdpfdaaGreatDoor.FixpM Go.Proofs.YtocjfjikkdpfdaaGreatDoor.FixpW

theorem or_even (x t : Nat) (hx : x % 2 = 0) (ht : t < 2) (hxl : x < 18446744073709551616) : bits .or .u64 (x : Int) (t : Int) = ((x + t : Nat) : Int) := by
  rw [u64_or_nat _ _ hxl (by omega), nat_join 1 x t (by simpa using hx) (by simpa using ht)]

theorem shr_int (b j : Nat) : (b : Int) / 2 ^ j = ((b / 2 ^ j : Nat) : Int) := by simp
theorem bit_at (b j : Nat) (hb : b < 18446744073709551616) : bits .and .u64 ((b : Int) / 2 ^ j) 1 = ((b / 2 ^ j % 2 : Nat) : Int) := by
  rw [shr_int]
  have h1 : b / 2 ^ j ≤ b := Nat.div_le_self _ _
  have := u64_and_nat (b / 2 ^ j) 1 (by omega) (by omega)
  rw [nat_mask1] at this
  exact this
theorem bits_up (b j : Nat) : b / 2 ^ j = 2 * (b / 2 ^ (j + 1)) + b / 2 ^ j % 2 := by
  rw [Nat.pow_succ, ← Nat.div_div_eq_div_mul]; omega

/-- a wide number's halves -/
def hiN (W : Nat) : Nat := W / 18446744073709551616
def loN (W : Nat) : Nat := W % 18446744073709551616
theorem wide_twice (W bit : Nat) (h : 2 * W + bit < 340282366920938463463374607431768211456) (hb : bit < 2) :
    2 * hiN W % 18446744073709551616 + loN W / 9223372036854775808 = hiN (2 * W + bit) ∧ 2 * loN W % 18446744073709551616 + bit = loN (2 * W + bit) := by
  unfold hiN loN; omega
theorem wide_add (W a : Nat) (ha : a < 18446744073709551616) :
    (loN W + a) % 18446744073709551616 = loN (W + a) ∧ (loN (W + a) < a → hiN W + 1 = hiN (W + a)) ∧ (¬ loN (W + a) < a → hiN W = hiN (W + a)) := by
  unfold hiN loN; omega
theorem lo_lt (W : Nat) : loN W < 18446744073709551616 := by unfold loN; omega
theorem hi_lt (W : Nat) (h : W < 340282366920938463463374607431768211456) : hiN W < 18446744073709551616 := by unfold hiN; omega

end Go.Proofs.YtocjfjikkdpfdaaGreatDoor.FixpR
