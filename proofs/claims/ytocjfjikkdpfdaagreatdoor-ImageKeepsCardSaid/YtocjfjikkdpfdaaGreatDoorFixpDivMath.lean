/- Long division of two words by one: the numbers that the code lays. No program in sight. -/
import Derived.Test.YtocjfjikkdpfdaaGreatDoorFixpMath
import Derived.Laws.BitsAllLaws
import Derived.Laws.Bits64
import Derived.Lib.ItoaNum
set_option linter.unusedSimpArgs false
set_option linter.unusedVariables false
namespace Go.Proofs.YtocjfjikkdpfdaaGreatDoor.FixpM
open Go

theorem wrap_u (x : Int) (n : Nat) (h : x % 18446744073709551616 = (n : Int)) : IntKind.u64.wrap x = (n : Int) := by rw [IntKind.wrap_u64]; exact h
theorem wrap_nat (n : Nat) (h : n < 18446744073709551616) : IntKind.u64.wrap (n : Int) = (n : Int) := wrap_u _ _ (by omega)

theorem norm (y s : Nat) (hy0 : y ≠ 0) (hy : y < 18446744073709551616) (hs : s < 64) (hl : Lib.bitLen y = 64 - s) :
    9223372036854775808 ≤ y * 2 ^ s ∧ y * 2 ^ s < 18446744073709551616 := by
  have h := Lib.bitLenAux_bounds 64 y hy hy0
  have h1 : Lib.bitLenAux 64 y = 64 - s := hl
  rw [h1] at h
  constructor
  · have h2 : 2 ^ (64 - s - 1) * 2 ^ s ≤ y * 2 ^ s := Nat.mul_le_mul_right _ h.2.1
    rw [← Nat.pow_add, show 64 - s - 1 + s = 63 by omega] at h2
    exact h2
  · have h2 : y * 2 ^ s < 2 ^ (64 - s) * 2 ^ s := Nat.mul_lt_mul_of_pos_right h.2.2 (Nat.two_pow_pos s)
    rw [← Nat.pow_add, show 64 - s + s = 64 by omega] at h2
    exact h2

theorem shifted (hi lo y s : Nat) (hs : s < 64) (hh : hi < y) (hlo : lo < 18446744073709551616) :
    lo / 2 ^ (64 - s) < 2 ^ s ∧ hi * 2 ^ s + lo / 2 ^ (64 - s) < y * 2 ^ s ∧
    (hi * 18446744073709551616 + lo) * 2 ^ s = (hi * 2 ^ s + lo / 2 ^ (64 - s)) * 18446744073709551616 + lo * 2 ^ s % 18446744073709551616 := by
  have hp : (18446744073709551616 : Nat) = 2 ^ (64 - s) * 2 ^ s := by rw [← Nat.pow_add, show 64 - s + s = 64 by omega]
  have hpos : 0 < 2 ^ (64 - s) := Nat.two_pow_pos _
  have hps : 0 < 2 ^ s := Nat.two_pow_pos _
  generalize 2 ^ (64 - s) = p at hp hpos
  generalize 2 ^ s = t at hp hps
  have h1 : lo / p < t := by rw [Nat.div_lt_iff_lt_mul hpos, Nat.mul_comm, ← hp]; exact hlo
  have h2 : hi * t + lo / p < y * t := by
    have : (hi + 1) * t ≤ y * t := Nat.mul_le_mul_right t hh
    rw [Nat.add_mul, Nat.one_mul] at this
    omega
  refine ⟨h1, h2, ?_⟩
  have h3 : lo * t = lo / p * 18446744073709551616 + lo % p * t := by
    have := Nat.div_add_mod lo p
    have h4 : (p * (lo / p) + lo % p) * t = lo * t := by rw [this]
    rw [Nat.add_mul] at h4
    have h5 : p * (lo / p) * t = lo / p * 18446744073709551616 := by
      rw [hp, Nat.mul_comm p (lo / p), Nat.mul_assoc]
    omega
  have h6 : lo % p * t < 18446744073709551616 := by
    rw [hp]; exact Nat.mul_lt_mul_of_pos_right (Nat.mod_lt _ hpos) hps
  have h7 : lo * t % 18446744073709551616 = lo % p * t := by
    rw [h3, Nat.mul_comm (lo / p), Nat.mul_add_mod, Nat.mod_eq_of_lt h6]
  have h8 : (hi * t + lo / p) * 18446744073709551616 = hi * t * 18446744073709551616 + lo / p * 18446744073709551616 := Nat.add_mul _ _ _
  have h9 : (hi * 18446744073709551616 + lo) * t = hi * t * 18446744073709551616 + lo * t := by
    rw [Nat.add_mul, Nat.mul_assoc, Nat.mul_comm 18446744073709551616 t, ← Nat.mul_assoc]
  rw [h7, h8, h9, h3]
  exact (Nat.add_assoc _ _ _).symm

theorem scaled (N y s Q R : Nat) (hQ : N * 2 ^ s / (y * 2 ^ s) = Q) (hR : N * 2 ^ s % (y * 2 ^ s) = R) : N / y = Q ∧ N % y = R / 2 ^ s := by
  have hps : 0 < 2 ^ s := Nat.two_pow_pos _
  constructor
  · rw [← hQ, Nat.mul_div_mul_right _ _ hps]
  · rw [← hR, Nat.mul_mod_mul_right, Nat.mul_div_cancel _ hps]

/-- all that stands ahead of the two digits -/
structure Prep (hi lo y s Y v1 v0 H l1 U X c1 c0 : Nat) : Prop where
  eY : IntKind.u64.wrap ((y : Int) * 2 ^ s) = (Y : Int)
  ev1 : (Y : Int) / 4294967296 = (v1 : Int)
  ev0 : bits .and .u64 (Y : Int) 4294967295 = (v0 : Int)
  eH : IntKind.u64.wrap ((hi : Int) * 2 ^ s) = (H : Int)
  el1 : (lo : Int) / 2 ^ (64 - s) = (l1 : Int)
  eU : bits .or .u64 (H : Int) (l1 : Int) = (U : Int)
  eX : IntKind.u64.wrap ((lo : Int) * 2 ^ s) = (X : Int)
  ec1 : (X : Int) / 4294967296 = (c1 : Int)
  ec0 : bits .and .u64 (X : Int) 4294967295 = (c0 : Int)
  hY : Y = v1 * 4294967296 + v0
  hv0 : v0 < 4294967296
  hv1 : 2147483648 ≤ v1
  hv1' : v1 < 4294967296
  hc1 : c1 < 4294967296
  hc0 : c0 < 4294967296
  hU : U < Y
  hYlt : Y < 18446744073709551616
  hN : (hi * 18446744073709551616 + lo) * 2 ^ s = U * (4294967296 * 4294967296) + c1 * 4294967296 + c0
  hYs : Y = y * 2 ^ s

theorem prep (hi lo y s : Nat) (hh : hi < y) (hy : y < 18446744073709551616) (hlo : lo < 18446744073709551616) (hs : s < 64) (hl : Lib.bitLen y = 64 - s) :
    ∃ Y v1 v0 H l1 U X c1 c0, Prep hi lo y s Y v1 v0 H l1 U X c1 c0 := by
  obtain ⟨n1, n2⟩ := norm y s (by omega) hy hs hl
  obtain ⟨s1, s2, s3⟩ := shifted hi lo y s hs hh hlo
  have cast : ∀ x : Nat, (x : Int) * 2 ^ s = ((x * 2 ^ s : Nat) : Int) := fun x => by simp
  refine ⟨y * 2 ^ s, y * 2 ^ s / 4294967296, y * 2 ^ s % 4294967296, hi * 2 ^ s, lo / 2 ^ (64 - s), hi * 2 ^ s + lo / 2 ^ (64 - s), lo * 2 ^ s % 18446744073709551616,
    lo * 2 ^ s % 18446744073709551616 / 4294967296, lo * 2 ^ s % 18446744073709551616 % 4294967296, ?_⟩
  have hU : hi * 2 ^ s + lo / 2 ^ (64 - s) < 18446744073709551616 := by omega
  have hH : hi * 2 ^ s < 18446744073709551616 := Nat.lt_of_le_of_lt (Nat.le_add_right _ _) hU
  have hor : hi * 2 ^ s ||| lo / 2 ^ (64 - s) = hi * 2 ^ s + lo / 2 ^ (64 - s) := nat_join s _ _ (by simp) s1
  refine ⟨?_, by omega, ?_, ?_, by simp, ?_, ?_, by omega, ?_, by omega, by omega, by omega, by omega, by omega, by omega, s2, n2, ?_, rfl⟩
  · rw [cast]; exact wrap_nat _ n2
  · have := u64_and_nat (y * 2 ^ s) 4294967295 n2 (by omega)
    rw [nat_mask32] at this
    exact this
  · rw [cast]; exact wrap_nat _ hH
  · rw [u64_or_nat _ _ hH (Nat.lt_of_le_of_lt (Nat.div_le_self _ _) hlo), hor]
  · rw [cast]; exact wrap_u _ _ (by omega)
  · have := u64_and_nat (lo * 2 ^ s % 18446744073709551616) 4294967295 (by omega) (by omega)
    rw [nat_mask32] at this
    exact this
  · rw [s3]
    generalize hi * 2 ^ s + lo / 2 ^ (64 - s) = U
    generalize lo * 2 ^ s % 18446744073709551616 = X
    omega

/-- the first estimate -/
theorem est (U v1 : Nat) (h1 : 0 < v1) (hU : U < 18446744073709551616) :
    ∃ q r : Nat, IntKind.u64.wrap ((U : Int).tdiv (v1 : Int)) = (q : Int) ∧ IntKind.u64.wrap ((U : Int) / (v1 : Int)) = (q : Int) ∧ IntKind.u64.wrap ((U : Int) - IntKind.u64.wrap ((q : Int) * (v1 : Int))) = (r : Int) ∧ U = q * v1 + r ∧ r < v1 ∧ q < 18446744073709551616 := by
  have hd := Nat.div_add_mod U v1
  have hm := Nat.mod_lt U h1
  have hle : U / v1 ≤ U := Nat.div_le_self _ _
  have hml : U / v1 * v1 ≤ U := Nat.div_mul_le_self _ _
  refine ⟨U / v1, U % v1, ?_, ?_, ?_, by rw [Nat.mul_comm]; omega, hm, by omega⟩
  · have : (U : Int).tdiv (v1 : Int) = ((U / v1 : Nat) : Int) := by simp [Int.tdiv_eq_ediv_of_nonneg]
    rw [this]; exact wrap_nat _ (by omega)
  · have : (U : Int) / (v1 : Int) = ((U / v1 : Nat) : Int) := by simp
    rw [this]; exact wrap_nat _ (by omega)
  · have e1 : ((U / v1 : Nat) : Int) * (v1 : Int) = ((U / v1 * v1 : Nat) : Int) := by simp
    rw [e1, wrap_nat _ (by omega)]
    rw [Nat.mul_comm] at hd
    exact wrap_u _ _ (by omega)

/-- the rest behind a digit -/
theorem rest (U c1 q Y : Nat) (hY0 : 0 < Y) (hY : Y < 18446744073709551616) (hq : q = (U * 4294967296 + c1) / Y) :
    ∃ r : Nat, IntKind.u64.wrap (IntKind.u64.wrap (IntKind.u64.wrap ((U : Int) * 4294967296) + (c1 : Int)) - IntKind.u64.wrap ((q : Int) * (Y : Int))) = (r : Int) ∧ r = (U * 4294967296 + c1) % Y ∧ r < Y := by
  have hd := Nat.div_add_mod (U * 4294967296 + c1) Y
  have hm := Nat.mod_lt (U * 4294967296 + c1) hY0
  refine ⟨(U * 4294967296 + c1) % Y, ?_, rfl, hm⟩
  rw [← hq] at hd
  have e1 : (q : Int) * (Y : Int) = ((q * Y : Nat) : Int) := by simp
  rw [Nat.mul_comm] at hd
  generalize q * Y = P at hd e1
  rw [e1]
  simp only [IntKind.wrap_u64]
  omega
end Go.Proofs.YtocjfjikkdpfdaaGreatDoor.FixpM
