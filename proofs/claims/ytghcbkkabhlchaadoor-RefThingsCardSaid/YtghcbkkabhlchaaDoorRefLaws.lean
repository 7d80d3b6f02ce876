/- The plain laws of layer 9. -/
import Derived.Test.YtghcbkkabhlchaaDoorRefWalks
namespace Go.Proofs.YtghcbkkabhlchaaDoor.RefW
open Go.RowKit Go.Proofs.YtghcbkkabhlchaaDoor.Bas Go.Proofs.YtghcbkkabhlchaaDoor.FixpM Go.Proofs.YtghcbkkabhlchaaDoor.FixpW

/-- y is n / c, rounded down -/
def Fl (y n c : Int) : Prop := 0 ≤ n - y * c ∧ n - y * c < c
theorem fl_le {y z n m c : Int} (h : Fl y n c) (k : Fl z m c) (hc : 0 < c) (hle : n ≤ m) : y ≤ z := by
  unfold Fl at *
  apply Classical.byContradiction
  intro hn
  have h1 : z + 1 ≤ y := by omega
  have h2 : (z + 1) * c ≤ y * c := Int.mul_le_mul_of_nonneg_right h1 (by omega)
  rw [Int.add_mul] at h2
  omega
theorem fl_add {y z s n m c : Int} (h : Fl y n c) (k : Fl z m c) (t : Fl s (n + m) c) (hc : 0 < c) : y + z ≤ s := by
  have h1 : Fl (y + z) ((y + z) * c) c := by unfold Fl; omega
  refine fl_le h1 t hc ?_
  unfold Fl at *
  rw [Int.add_mul]; omega
theorem mulDiv_fl {a b c y : Int} (h : mulDivF a b c 0 = (y, 0)) (hc : 0 < c) : fits a = true ∧ fits b = true ∧ fits y = true ∧ Fl y (a * b) c := by
  obtain ⟨h1, h2, _, _, _, _, ho⟩ := mulDivF_ok h
  obtain ⟨hf, e⟩ := okv_ok ho
  have := rnd_down (a * b) c hc
  rw [e] at this hf
  exact ⟨h1, h2, hf, this⟩
theorem base_fl {r h a x : Int} (he : baseF r h a 0 = (x, 0)) : curF r h 1 = true ∧ fits a = true ∧ fits x = true ∧ Fl x (a * r) 1000000 := by
  unfold baseF at he
  by_cases hc : curF r h 1 = true
  · rw [if_pos hc] at he
    obtain ⟨h1, _, h3, h4⟩ := mulDiv_fl he (by omega)
    exact ⟨hc, h1, h3, h4⟩
  · rw [if_neg hc] at he; simp at he
theorem worth_fl {r h a y : Int} (he : worthF r h a = (y, 0)) : ∃ x, baseF r h a 0 = (x, 0) ∧ Fl y (x * (if x < 0 then 10000 + h else 10000 - h)) 10000 ∧ fits y = true := by
  unfold worthF at he
  by_cases hb : (baseF r h a 0).2 = 0
  · rw [if_pos hb] at he
    obtain ⟨_, _, hf, hl⟩ := mulDiv_fl he (by omega)
    exact ⟨(baseF r h a 0).1, Prod.ext rfl hb, hl, hf⟩
  · rw [if_neg hb] at he
    simp only [Prod.mk.injEq] at he
    exact absurd he.2 hb
/-- what is worth grows with what it is in the base currency -/
theorem cut_le {x y h : Int} (h0 : 0 ≤ h) (h1 : h ≤ 10000) (hle : x ≤ y) : x * (if x < 0 then 10000 + h else 10000 - h) ≤ y * (if y < 0 then 10000 + h else 10000 - h) := by
  by_cases hx : x < 0
  · rw [if_pos hx]
    by_cases hy : y < 0
    · rw [if_pos hy]
      exact Int.mul_le_mul_of_nonneg_right hle (by omega)
    · rw [if_neg hy]
      have a1 := Int.mul_nonneg (show 0 ≤ y by omega) (show 0 ≤ 10000 - h by omega)
      have a2 := Int.mul_nonneg (show 0 ≤ -x by omega) (show 0 ≤ 10000 + h by omega)
      rw [Int.neg_mul] at a2
      omega
  · rw [if_neg hx, if_neg (by omega)]
    exact Int.mul_le_mul_of_nonneg_right hle (by omega)
theorem worth_le {r h a b x y : Int} (ha : worthF r h a = (x, 0)) (hb : worthF r h b = (y, 0)) (hle : a ≤ b) : x ≤ y := by
  obtain ⟨p, hp, fx, _⟩ := worth_fl ha
  obtain ⟨q, hq, fy, _⟩ := worth_fl hb
  obtain ⟨hc, _, _, f1⟩ := base_fl hp
  obtain ⟨_, _, _, f2⟩ := base_fl hq
  have hcc := (curF_iff r h 1).1 hc
  have hpq := fl_le f1 f2 (by omega) (Int.mul_le_mul_of_nonneg_right hle (by omega))
  exact fl_le fx fy (by omega) (cut_le hcc.2.2.1 hcc.2.2.2 hpq)
/-- nothing is worth more than it is -/
theorem worth_base {r h a x p : Int} (ha : worthF r h a = (x, 0)) (hp : baseF r h a 0 = (p, 0)) : x ≤ p := by
  obtain ⟨q, hq, fx, _⟩ := worth_fl ha
  rw [hp] at hq
  simp only [Prod.mk.injEq, and_true] at hq
  subst hq
  obtain ⟨hc, _, _, _⟩ := base_fl hp
  have hcc := (curF_iff r h 1).1 hc
  have h1 : Fl p (p * 10000) 10000 := by unfold Fl; omega
  refine fl_le fx h1 (by omega) ?_
  by_cases hn : p < 0
  · rw [if_pos hn]
    have := Int.mul_nonneg (show 0 ≤ -p by omega) hcc.2.2.1
    rw [Int.neg_mul] at this
    rw [Int.mul_add]; omega
  · rw [if_neg hn]
    have := Int.mul_nonneg (show 0 ≤ p by omega) hcc.2.2.1
    rw [Int.mul_sub]; omega
theorem base_ok_of_worth {r h a x : Int} (ha : worthF r h a = (x, 0)) : ∃ p, baseF r h a 0 = (p, 0) ∧ x ≤ p := by
  obtain ⟨q, hq, _, _⟩ := worth_fl ha
  exact ⟨q, hq, worth_base ha hq⟩
theorem worth_small {r h a x : Int} (ha : worthF r h a = (x, 0)) : -4611686018427387904 ≤ x ∧ x ≤ 4611686018427387904 := by
  obtain ⟨q, _, _, hf⟩ := worth_fl ha
  exact (fits_iff x).1 hf
theorem fl_nonneg {y n c : Int} (h : Fl y n c) (hc : 0 < c) (hn : 0 ≤ n) : 0 ≤ y := by
  have h1 : Fl 0 0 c := by unfold Fl; omega
  exact fl_le h1 h hc hn
theorem fl_neg {y n c : Int} (h : Fl y n c) (hc : 0 < c) (hn : n < 0) : y < 0 := by
  unfold Fl at h
  apply Classical.byContradiction
  intro hy
  have := Int.mul_nonneg (show 0 ≤ y by omega) (show 0 ≤ c by omega)
  omega
/-- two that are owned are worth together no less than apart -/
theorem worth_add {r h a b x y z : Int} (ha : worthF r h a = (x, 0)) (hb : worthF r h b = (y, 0)) (hz : worthF r h (a + b) = (z, 0)) (a0 : 0 ≤ a) (b0 : 0 ≤ b) : x + y ≤ z := by
  obtain ⟨p, hp, fx, _⟩ := worth_fl ha
  obtain ⟨q, hq, fy, _⟩ := worth_fl hb
  obtain ⟨s, hs, fz, _⟩ := worth_fl hz
  obtain ⟨hc, _, _, f1⟩ := base_fl hp
  obtain ⟨_, _, _, f2⟩ := base_fl hq
  obtain ⟨_, _, _, f3⟩ := base_fl hs
  have hcc := (curF_iff r h 1).1 hc
  rw [Int.add_mul] at f3
  have hpq := fl_add f1 f2 f3 (by omega)
  have p0 := fl_nonneg f1 (by omega) (Int.mul_nonneg a0 (by omega))
  have q0 := fl_nonneg f2 (by omega) (Int.mul_nonneg b0 (by omega))
  rw [if_neg (by omega)] at fx fy fz
  have h1 : Fl (x + y) ((x + y) * 10000) 10000 := by unfold Fl; omega
  refine fl_le h1 fz (by omega) ?_
  have h2 : (p + q) * (10000 - h) ≤ s * (10000 - h) := Int.mul_le_mul_of_nonneg_right hpq (by omega)
  rw [Int.add_mul] at h2
  unfold Fl at fx fy
  omega
/-- a greater rate -/
theorem rate_le {r r' h a x y : Int} (ha : worthF r h a = (x, 0)) (hb : worthF r' h a = (y, 0)) (hr : r ≤ r') : (0 ≤ a → x ≤ y) ∧ (a < 0 → y ≤ x) := by
  obtain ⟨p, hp, fx, _⟩ := worth_fl ha
  obtain ⟨q, hq, fy, _⟩ := worth_fl hb
  obtain ⟨hc, _, _, f1⟩ := base_fl hp
  obtain ⟨hc', _, _, f2⟩ := base_fl hq
  have hcc := (curF_iff r h 1).1 hc
  refine ⟨fun h0 => ?_, fun h0 => ?_⟩
  · have hpq := fl_le f1 f2 (by omega) (Int.mul_le_mul_of_nonneg_left hr h0)
    exact fl_le fx fy (by omega) (cut_le hcc.2.2.1 hcc.2.2.2 hpq)
  · have hm : a * r' ≤ a * r := Int.mul_le_mul_of_nonpos_left (by omega) hr
    have hpq := fl_le f2 f1 (by omega) hm
    exact fl_le fy fx (by omega) (cut_le hcc.2.2.1 hcc.2.2.2 hpq)
/-- a greater haircut -/
theorem hair_le {r h h' a x z : Int} (ha : worthF r h a = (x, 0)) (hb : worthF r h' a = (z, 0)) (hh : h ≤ h') : z ≤ x := by
  obtain ⟨p, hp, fx, _⟩ := worth_fl ha
  obtain ⟨q, hq, fz, _⟩ := worth_fl hb
  obtain ⟨hc, _, _, f1⟩ := base_fl hp
  obtain ⟨hc', _, _, f2⟩ := base_fl hq
  obtain rfl : p = q := by
    have := fl_le f1 f2 (by omega) (Int.le_refl _)
    have := fl_le f2 f1 (by omega) (Int.le_refl _)
    omega
  refine fl_le fz fx (by omega) ?_
  by_cases hn : p < 0
  · rw [if_pos hn, if_pos hn]
    exact Int.mul_le_mul_of_nonpos_left (by omega) (by omega)
  · rw [if_neg hn, if_neg hn]
    exact Int.mul_le_mul_of_nonneg_left (by omega) (by omega)
end Go.Proofs.YtghcbkkabhlchaaDoor.RefW
