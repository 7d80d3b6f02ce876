/- MulDiv's walk. -/
import Derived.Test.YtocjfjikkdpfdaaGreatDoorFixpDiv
set_option linter.unusedSimpArgs false
set_option linter.unusedVariables false
namespace Go.Proofs.YtocjfjikkdpfdaaGreatDoor.FixpW
open Go.RowKit Go.Proofs.YtocjfjikkdpfdaaGreatDoor.Bas Go.Proofs.YtocjfjikkdpfdaaGreatDoor.FixpM

theorem mulDivF_over (a b c mode : Int) (h : fits a = false ∨ fits b = false ∨ fits c = false) : mulDivF a b c mode = (0, 4) := by
  unfold mulDivF
  rcases h with h | h | h <;> simp [h]
theorem mulDivF_arg (a b c mode : Int) (ha : fits a = true) (hb : fits b = true) (hc : fits c = true) (h : c = 0 ∨ mode < 0 ∨ 3 < mode) : mulDivF a b c mode = (0, 1) := by
  unfold mulDivF
  simp [ha, hb, hc, h]
theorem mulDivF_yes (a b c mode : Int) (ha : fits a = true) (hb : fits b = true) (hc : fits c = true) (h : ¬ (c = 0 ∨ mode < 0 ∨ 3 < mode)) : mulDivF a b c mode = okv (sgn (signOf a b c) (rndN (a.natAbs * b.natAbs) c.natAbs (signOf a b c) mode)) := by
  unfold mulDivF
  rw [← rnd_code]
  simp [ha, hb, hc, h]

/-- the quotient outgrows a word -/
theorem yes_high (A B C : Nat) (neg : Bool) (mode : Int) (hc : 0 < C) (h : C ≤ A * B / 18446744073709551616) : okv (sgn neg (rndN (A * B) C neg mode)) = (0, 4) := by
  rw [okv_sgn, if_neg]
  have h1 : C * 18446744073709551616 ≤ A * B := by
    have := Nat.div_mul_le_self (A * B) 18446744073709551616
    exact Nat.le_trans (Nat.mul_le_mul_right _ h) this
  have h2 : 18446744073709551616 ≤ A * B / C := by
    rw [Nat.le_div_iff_mul_le hc, Nat.mul_comm]; exact h1
  unfold rndN
  omega
theorem yes_up (P C : Nat) (neg : Bool) (mode : Int) (hr : 0 < P % C) (hg : grows neg mode = true) :
    okv (sgn neg (rndN P C neg mode)) = signedF (((P / C + 1) / 18446744073709551616 : Nat) : Int) (((P / C + 1) % 18446744073709551616 : Nat) : Int) neg := by
  rw [signedF_nat]
  have : rndN P C neg mode = P / C + 1 := by unfold rndN; simp [hr, hg]
  rw [this]
theorem yes_down (P C : Nat) (neg : Bool) (mode : Int) (h : ¬ (0 < P % C ∧ grows neg mode = true)) (hq : P / C < 18446744073709551616) :
    okv (sgn neg (rndN P C neg mode)) = signedF 0 ((P / C : Nat) : Int) neg := by
  have h1 : rndN P C neg mode = P / C := by
    unfold rndN
    rw [if_neg]; rfl
    simp only [Bool.and_eq_true, decide_eq_true_eq]; exact h
  rw [h1]
  have h2 := signedF_nat (P / C) neg
  rw [Nat.div_eq_of_lt hq, Nat.mod_eq_of_lt hq] at h2
  exact h2.symm

end Go.Proofs.YtocjfjikkdpfdaaGreatDoor.FixpW
