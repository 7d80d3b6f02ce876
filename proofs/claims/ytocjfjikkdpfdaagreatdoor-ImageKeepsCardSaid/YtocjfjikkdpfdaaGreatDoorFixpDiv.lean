/- math/bits.Div64: long division. -/
import Derived.Test.YtocjfjikkdpfdaaGreatDoorFixpWalks
import Derived.Test.YtocjfjikkdpfdaaGreatDoorFixpDivMath
import Derived.Laws.ShiftsVarLaws
import Derived.Deep.DeepCutAuto
import Derived.Deep.CutBlock
set_option linter.unusedSimpArgs false
set_option linter.unusedVariables false
namespace Go.Proofs.YtocjfjikkdpfdaaGreatDoor.FixpW
open Go.RowKit Go.Proofs.YtocjfjikkdpfdaaGreatDoor.Bas Go.Proofs.YtocjfjikkdpfdaaGreatDoor.FixpM

theorem ret_u2 {a b c d : Int} (h : a = c) (h2 : b = d) : Ending.returned (.tuple #[.int .u64 a, .int .u64 b]) = .returned (.tuple #[.int .u64 c, .int .u64 d]) := by rw [h, h2]

/-- what a round of the digit's loop knows -/
structure Rel (Y v1 v0 U c q r : Nat) : Prop where
  le : dig 4294967296 Y U c ≤ q
  most : q ≤ 4294967297
  small : r < 4294967296
  eq : U = q * v1 + r

theorem rel_start {Y v1 v0 U c q r : Nat} (hY : Y = v1 * 4294967296 + v0) (hv0 : v0 < 4294967296) (hv1 : 2147483648 ≤ v1) (hv1' : v1 < 4294967296) (hc : c < 4294967296) (hU : U < Y) (hq : U = q * v1 + r) (hr : r < v1) : Rel Y v1 v0 U c q r :=
  ⟨dig_le_est hY (by omega) (by omega) hc hq hr, est_le hY hv0 (by omega) hU hq, by omega, hq⟩

/-- a round: two ways to take one off, one way out -/
theorem step_all {Y v1 v0 U c q r : Nat} (hY : Y = v1 * 4294967296 + v0) (hv0 : v0 < 4294967296) (hv1 : 2147483648 ≤ v1) (hv1' : v1 < 4294967296) (hc : c < 4294967296) (hd : dig 4294967296 Y U c < 4294967296) (h : Rel Y v1 v0 U c q r) :
    ∃ q' r' : Nat,
      ((4294967296 : Int) ≤ (q : Int) ∧ IntKind.u64.wrap ((q : Int) - 1) = (q' : Int) ∧ IntKind.u64.wrap ((r : Int) + (v1 : Int)) = (r' : Int) ∧
        (q' < q ∧ (r' < 4294967296 → Rel Y v1 v0 U c q' r') ∧ (4294967296 ≤ r' → q' = dig 4294967296 Y U c))) ∨
      (¬ (4294967296 : Int) ≤ (q : Int) ∧ ∃ P T : Nat, IntKind.u64.wrap ((q : Int) * (v0 : Int)) = (P : Int) ∧ IntKind.u64.wrap (IntKind.u64.wrap (4294967296 * (r : Int)) + (c : Int)) = (T : Int) ∧ (T : Int) < (P : Int) ∧
        IntKind.u64.wrap ((q : Int) - 1) = (q' : Int) ∧ IntKind.u64.wrap ((r : Int) + (v1 : Int)) = (r' : Int) ∧
        (q' < q ∧ (r' < 4294967296 → Rel Y v1 v0 U c q' r') ∧ (4294967296 ≤ r' → q' = dig 4294967296 Y U c))) ∨
      (¬ (4294967296 : Int) ≤ (q : Int) ∧ ∃ P T : Nat, IntKind.u64.wrap ((q : Int) * (v0 : Int)) = (P : Int) ∧ IntKind.u64.wrap (IntKind.u64.wrap (4294967296 * (r : Int)) + (c : Int)) = (T : Int) ∧ ¬ (T : Int) < (P : Int) ∧ q = dig 4294967296 Y U c) := by
  obtain ⟨h1, h2, h3, h4⟩ := h
  have down : dig 4294967296 Y U c < q → ∃ q' r' : Nat, IntKind.u64.wrap ((q : Int) - 1) = (q' : Int) ∧ IntKind.u64.wrap ((r : Int) + (v1 : Int)) = (r' : Int) ∧
        (q' < q ∧ (r' < 4294967296 → Rel Y v1 v0 U c q' r') ∧ (4294967296 ≤ r' → q' = dig 4294967296 Y U c)) := by
    intro hlt
    obtain ⟨k, rfl⟩ : ∃ k, q = k + 1 := ⟨q - 1, by omega⟩
    have e : U = k * v1 + (r + v1) := by rw [h4, Nat.add_mul, Nat.one_mul]; omega
    refine ⟨k, r + v1, wrap_u _ _ (by omega), wrap_u _ _ (by omega), by omega, fun hr => ⟨by omega, by omega, hr, e⟩, fun hr => ?_⟩
    have : k ≤ dig 4294967296 Y U c := le_of_test hY (by omega) e (by
      have h5 : k * v0 ≤ 4294967296 * v0 := Nat.mul_le_mul_right _ (by omega)
      have h6 : 4294967296 * v0 ≤ 4294967296 * (r + v1) := Nat.mul_le_mul_left _ (by omega)
      omega)
    omega
  by_cases hb : 4294967296 ≤ q
  · obtain ⟨q', r', a, b, c'⟩ := down (by omega)
    exact ⟨q', r', .inl ⟨by omega, a, b, c'⟩⟩
  · have hp1 : q * v0 < 18446744073709551616 := by
      have h5 : q * v0 ≤ q * 4294967296 := Nat.mul_le_mul_left _ (by omega)
      omega
    have e0 : IntKind.u64.wrap ((q : Int) * (v0 : Int)) = ((q * v0 : Nat) : Int) := by
      have : (q : Int) * (v0 : Int) = ((q * v0 : Nat) : Int) := by simp
      rw [this]; exact wrap_nat _ hp1
    have e3 : IntKind.u64.wrap (IntKind.u64.wrap (4294967296 * (r : Int)) + (c : Int)) = ((4294967296 * r + c : Nat) : Int) := by
      rw [wrap_u (4294967296 * (r : Int)) (4294967296 * r) (by omega)]
      exact wrap_u _ _ (by omega)
    by_cases ht : 4294967296 * r + c < q * v0
    · obtain ⟨q', r', a, b, c'⟩ := down (over_of_test hY (by omega) h4 ht)
      exact ⟨q', r', .inr (.inl ⟨by omega, _, _, e0, e3, by omega, a, b, c'⟩)⟩
    · have := le_of_test hY (by omega) h4 (Nat.le_of_not_lt ht)
      exact ⟨0, 0, .inr (.inr ⟨by omega, _, _, e0, e3, by omega, by omega⟩)⟩

end Go.Proofs.YtocjfjikkdpfdaaGreatDoor.FixpW
