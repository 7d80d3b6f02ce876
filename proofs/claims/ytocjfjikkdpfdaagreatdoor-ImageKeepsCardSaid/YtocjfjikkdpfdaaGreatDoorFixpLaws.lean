/- The plain laws of layer 1. No program in sight. -/
import Derived.Test.YtocjfjikkdpfdaaGreatDoorFixpMath
set_option linter.unusedSimpArgs false
set_option linter.unusedVariables false
namespace Go.Proofs.YtocjfjikkdpfdaaGreatDoor.FixpM

theorem mulDivF_ok {a b c m d : Int} (h : mulDivF a b c m = (d, 0)) :
    fits a = true ∧ fits b = true ∧ fits c = true ∧ c ≠ 0 ∧ 0 ≤ m ∧ m ≤ 3 ∧ okv (rnd (a * b) c m) = (d, 0) := by
  unfold mulDivF at h
  split at h
  · rename_i hf
    simp only [Bool.and_eq_true] at hf
    split at h
    · simp at h
    · exact ⟨hf.1.1, hf.1.2, hf.2, by omega, by omega, by omega, h⟩
  · simp at h
theorem okv_ok {x d : Int} (h : okv x = (d, 0)) : fits x = true ∧ x = d := by
  unfold okv at h
  split at h
  · rename_i hf; simp at h; exact ⟨hf, h⟩
  · simp at h
theorem okv_fits {x : Int} (h : fits x = true) : okv x = (x, 0) := by unfold okv; rw [if_pos h]

theorem rnd_each (n c : Int) :
    rnd n c 2 = sgn (decide (n < 0) != decide (c < 0)) (n.natAbs / c.natAbs) ∧
    (let k : Nat := if 0 < n.natAbs % c.natAbs then 1 else 0
     rnd n c 3 = sgn (decide (n < 0) != decide (c < 0)) (n.natAbs / c.natAbs + k) ∧
     rnd n c 1 = (if (decide (n < 0) != decide (c < 0)) = true then sgn true (n.natAbs / c.natAbs) else sgn false (n.natAbs / c.natAbs + k)) ∧
     rnd n c 0 = (if (decide (n < 0) != decide (c < 0)) = true then sgn true (n.natAbs / c.natAbs + k) else sgn false (n.natAbs / c.natAbs))) := by
  unfold rnd rndN grows
  generalize (decide (n < 0) != decide (c < 0)) = neg
  generalize n.natAbs / c.natAbs = q
  generalize n.natAbs % c.natAbs = r
  by_cases hr : 0 < r <;> cases neg <;> simp [hr]

theorem rounds (a b c d u z aw : Int) (eg : Int) (hd : mulDivF a b c 0 = (d, 0)) (hu : mulDivF a b c 1 = (u, 0)) (ha : mulDivF a b c 3 = (aw, 0)) (hz : mulDivF a b c 2 = (z, eg)) :
    eg = 0 ∧ u - d ≤ 1 ∧ d ≤ u ∧ fits d = true ∧ fits u = true ∧ (0 < u → z = d ∧ aw = u) ∧ (¬ 0 < u → z = u ∧ aw = d) := by
  obtain ⟨f1, f2, f3, hc, _, _, od⟩ := mulDivF_ok hd
  obtain ⟨_, _, _, _, _, _, ou⟩ := mulDivF_ok hu
  obtain ⟨_, _, _, _, _, _, oa⟩ := mulDivF_ok ha
  have hz' : mulDivF a b c 2 = okv (rnd (a * b) c 2) := by
    unfold mulDivF
    rw [f1, f2, f3]
    simp [hc]
  rw [hz'] at hz
  obtain ⟨e2, e3, e1, e0⟩ := rnd_each (a * b) c
  generalize rnd (a * b) c 0 = x0 at *
  generalize rnd (a * b) c 1 = x1 at *
  generalize rnd (a * b) c 2 = x2 at *
  generalize rnd (a * b) c 3 = x3 at *
  generalize (a * b).natAbs / c.natAbs = q at *
  generalize (a * b).natAbs % c.natAbs = r at *
  generalize (decide (a * b < 0) != decide (c < 0)) = neg at *
  obtain ⟨gd, rfl⟩ := okv_ok od
  obtain ⟨gu, rfl⟩ := okv_ok ou
  obtain ⟨ga, rfl⟩ := okv_ok oa
  rw [fits_iff] at gd gu
  have gz : fits x2 = true := by
    rw [fits_iff, e2]
    by_cases hr : 0 < r <;> cases neg <;> simp [sgn, hr] at e0 e1 ⊢ <;> omega
  rw [okv_fits gz] at hz
  simp only [Prod.mk.injEq] at hz
  obtain ⟨rfl, rfl⟩ := hz
  rw [fits_iff, fits_iff]
  by_cases hr : 0 < r <;> cases neg <;> simp [sgn, hr] at e0 e1 e2 e3 <;> refine ⟨rfl, ?_, ?_, gd, gu, fun h => ?_, fun h => ?_⟩ <;> omega

/-- what is rounded down, times the divisor, and a rest, is the product -/
theorem rnd_down (n c : Int) (hc : 0 < c) : 0 ≤ n - rnd n c 0 * c ∧ n - rnd n c 0 * c < c := by
  obtain ⟨_, _, _, e0⟩ := rnd_each n c
  rw [decide_eq_false (show ¬ c < 0 by omega)] at e0
  have h := Nat.div_add_mod n.natAbs c.natAbs
  have hr := Nat.mod_lt n.natAbs (show 0 < c.natAbs by omega)
  generalize hq : n.natAbs / c.natAbs = q at *
  generalize n.natAbs % c.natAbs = r at *
  have hcc : (c.natAbs : Int) = c := by omega
  have hm : ((c.natAbs * q : Nat) : Int) = c * q := by rw [Int.natCast_mul, hcc]
  by_cases hn : n < 0
  · rw [decide_eq_true hn] at e0
    simp only [sgn, Bool.false_eq_true, if_true, bne_iff_ne, ne_eq, not_false_eq_true, Bool.true_eq_false] at e0
    by_cases hr0 : 0 < r
    · rw [if_pos hr0] at e0
      have e : rnd n c 0 * c = -(c * q) - c := by
        rw [e0]
        have : -(((q + 1 : Nat) : Int)) * c = -((q + 1) * c) := by rw [Int.neg_mul]; rfl
        rw [this, Int.add_mul, Int.mul_comm (q : Int) c]; omega
      rw [e]; omega
    · rw [if_neg hr0] at e0
      have e : rnd n c 0 * c = -(c * q) := by
        rw [e0, Nat.add_zero, Int.neg_mul, Int.mul_comm (q : Int) c]
      rw [e]; omega
  · rw [decide_eq_false hn] at e0
    simp only [sgn, Bool.false_eq_true, if_false, bne_self_eq_false] at e0
    have e : rnd n c 0 * c = c * q := by rw [e0, Int.mul_comm]
    rw [e]; omega

theorem addF_comm (a b : Int) : addF a b = addF b a := by unfold addF; rw [Bool.and_comm, Int.add_comm]
theorem mulF_comm (a b : Int) : mulF a b = mulF b a := by unfold mulF; rw [Bool.and_comm, Int.mul_comm]
theorem addF_ok {a b x : Int} (h : addF a b = (x, 0)) : fits a = true ∧ fits b = true ∧ fits x = true ∧ x = a + b := by
  unfold addF at h
  split at h
  · rename_i hf
    simp only [Bool.and_eq_true] at hf
    obtain ⟨h1, h2⟩ := okv_ok h
    exact ⟨hf.1, hf.2, h2 ▸ h1, h2.symm⟩
  · simp at h
theorem mulF_ok {a b x : Int} (h : mulF a b = (x, 0)) : fits a = true ∧ fits b = true ∧ fits x = true ∧ x = a * b := by
  unfold mulF at h
  split at h
  · rename_i hf
    simp only [Bool.and_eq_true] at hf
    obtain ⟨h1, h2⟩ := okv_ok h
    exact ⟨hf.1, hf.2, h2 ▸ h1, h2.symm⟩
  · simp at h
theorem sub_back {a b x : Int} (h : addF a b = (x, 0)) : subF x b = (a, 0) := by
  obtain ⟨ha, hb, hx, rfl⟩ := addF_ok h
  unfold subF
  rw [hx, hb, show a + b - b = a by omega, okv_fits ha]; rfl
/-- a product that fits, divided by a divisor from one on, rounded down -/
theorem div_back {a b c p : Int} (h : mulF a b = (p, 0)) (hc : 0 < c) (hf : fits c = true) :
    ∃ d, mulDivF a b c 0 = (d, 0) ∧ fits d = true ∧ (mulF d c = (d * c, 0) ∧ fits (d * c) = true ∧ 0 ≤ p - d * c ∧ p - d * c < c ∨ mulF d c = (0, 4) ∧ p < -4611686018427387904 + c) := by
  obtain ⟨ha, hb, hp, rfl⟩ := mulF_ok h
  obtain ⟨h1, h2⟩ := rnd_down (a * b) c hc
  have hd : fits (rnd (a * b) c 0) = true := by
    rw [fits_iff] at hp hf ⊢
    generalize rnd (a * b) c 0 = d at *
    generalize a * b = P at *
    have hlo : -4611686018427387904 ≤ d := by
      apply Classical.byContradiction
      intro hn
      have h3 : d + 1 ≤ -4611686018427387904 := by omega
      have h4 : (d + 1) * c ≤ -4611686018427387904 * c := Int.mul_le_mul_of_nonneg_right h3 (by omega)
      rw [Int.add_mul] at h4
      omega
    have hhi : d ≤ 4611686018427387904 := by
      apply Classical.byContradiction
      intro hn
      have h3 : 4611686018427387905 ≤ d := by omega
      have h4 : 4611686018427387905 * c ≤ d * c := Int.mul_le_mul_of_nonneg_right h3 (by omega)
      omega
    exact ⟨hlo, hhi⟩
  refine ⟨rnd (a * b) c 0, ?_, hd, ?_⟩
  · unfold mulDivF
    rw [ha, hb, hf, okv_fits hd]
    simp; omega
  · generalize rnd (a * b) c 0 = d at *
    cases hm : fits (d * c)
    · right
      refine ⟨by unfold mulF okv; rw [hd, hf, hm]; rfl, ?_⟩
      rw [fits_iff] at hp
      have : ¬ (-4611686018427387904 ≤ d * c ∧ d * c ≤ 4611686018427387904) := by rw [← fits_iff, hm]; simp
      omega
    · left
      exact ⟨by unfold mulF; rw [hd, hf, okv_fits hm]; rfl, rfl, h1, h2⟩
end Go.Proofs.YtocjfjikkdpfdaaGreatDoor.FixpM
