/- The document's own answers of layer 1: long division bit by bit. -/
import Derived.Test.YtocjfjikkdpfdaaGreatDoorFixpRef
set_option linter.unusedSimpArgs false
set_option linter.unusedVariables false
namespace Go.Proofs.YtocjfjikkdpfdaaGreatDoor.FixpR
open Go.RowKit Go.Proofs.YtocjfjikkdpfdaaGreatDoor.Bas Go.Proofs.YtocjfjikkdpfdaaGreatDoor.FixpM Go.Proofs.YtocjfjikkdpfdaaGreatDoor.FixpW

theorem wide_bit_hi (W k : Nat) (hk : 64 ≤ k) (hk2 : k < 128) : hiN W / 2 ^ (k % 64) = W / 2 ^ k := by
  unfold hiN
  obtain ⟨m, rfl⟩ : ∃ m, k = 64 + m := ⟨k - 64, by omega⟩
  have : (64 + m) % 64 = m := by omega
  rw [this, Nat.pow_add, ← Nat.div_div_eq_div_mul]
theorem wide_bit_lo (W k : Nat) (hk : k < 64) : loN W / 2 ^ (k % 64) % 2 = W / 2 ^ k % 2 := by
  have e : k % 64 = k := Nat.mod_eq_of_lt hk
  rw [e]
  unfold loN
  have h := Nat.div_add_mod W 18446744073709551616
  have h2 : (18446744073709551616 : Nat) = 2 ^ k * (2 * 2 ^ (63 - k)) := by
    rw [← Nat.pow_succ', ← Nat.pow_add]
    have : k + (63 - k).succ = 64 := by omega
    rw [this]
  obtain ⟨L, hL⟩ : ∃ L, L = W % 18446744073709551616 := ⟨_, rfl⟩
  rw [← hL] at h ⊢
  obtain ⟨H, hH⟩ : ∃ H, H = W / 18446744073709551616 := ⟨_, rfl⟩
  rw [← hH] at h
  rw [← h, h2]
  have : 2 ^ k * (2 * 2 ^ (63 - k)) * H + L = L + 2 ^ k * (2 * (2 ^ (63 - k) * H)) := by
    simp only [Nat.mul_assoc]; omega
  rw [this, Nat.add_mul_div_left _ _ (Nat.two_pow_pos k)]
  omega
theorem div_up (W c k : Nat) (hc : 0 < c) :
    let r := W / 2 ^ (k + 1) % c
    let t := W / 2 ^ k % 2
    (¬ 2 * r + t < c → W / 2 ^ k % c = 2 * r + t - c ∧ W / 2 ^ k / c = 2 * (W / 2 ^ (k + 1) / c) + 1) ∧
    (2 * r + t < c → W / 2 ^ k % c = 2 * r + t ∧ W / 2 ^ k / c = 2 * (W / 2 ^ (k + 1) / c)) := by
  intro r t
  have h1 := bits_up W k
  have h2 := Nat.div_add_mod (W / 2 ^ (k + 1)) c
  have hr : r < c := Nat.mod_lt _ hc
  have ht : t < 2 := Nat.mod_lt _ (by omega)
  obtain ⟨q, hq⟩ : ∃ q, q = W / 2 ^ (k + 1) / c := ⟨_, rfl⟩
  have e : W / 2 ^ k = 2 * r + t + c * (2 * q) := by
    show W / 2 ^ k = 2 * (W / 2 ^ (k + 1) % c) + W / 2 ^ k % 2 + c * (2 * q)
    rw [← hq] at h2
    have : c * (2 * q) = 2 * (c * q) := Nat.mul_left_comm _ _ _
    omega
  rw [← hq]
  constructor
  · intro h
    have e2 : 2 * r + t + c * (2 * q) = (2 * r + t - c) + c * (2 * q + 1) := by rw [Nat.mul_add]; omega
    rw [e, e2, Nat.add_mul_div_left _ _ hc, Nat.add_mul_mod_self_left, Nat.mod_eq_of_lt (by omega), Nat.div_eq_of_lt (by omega)]
    exact ⟨rfl, by omega⟩
  · intro h
    rw [e, Nat.add_mul_div_left _ _ hc, Nat.add_mul_mod_self_left, Nat.mod_eq_of_lt h, Nat.div_eq_of_lt h]
    exact ⟨rfl, by omega⟩

theorem mask63 (k : Nat) (hk : k < 128) : bits .and .i64 (k : Int) 63 = ((k % 64 : Nat) : Int) := by
  have h : ∀ k : Fin 128, bits .and .i64 ((k.1 : Nat) : Int) 63 = ((k.1 % 64 : Nat) : Int) := by decide +kernel
  exact h ⟨k, hk⟩

end Go.Proofs.YtocjfjikkdpfdaaGreatDoor.FixpR
