/- Point, of the program and of the document. -/
import Derived.Test.YtjfcghbifhmacaaDoorGridWalks
namespace Go.Proofs.YtjfcghbifhmacaaDoor.GridW
open Go.RowKit Go.Proofs.YtjfcghbifhmacaaDoor.Bas Go.Proofs.YtjfcghbifhmacaaDoor.FixpM Go.Proofs.YtjfcghbifhmacaaDoor.FixpW Go.Proofs.YtjfcghbifhmacaaDoor.FixpR Go.Proofs.YtjfcghbifhmacaaDoor.OptW

/-- shifted by so many hundredths of a hundredth, rounded down -/
def pt (x k : Int) : Int := x * (10000 + k) / 10000
theorem pt_muldiv (x k : Int) (hx : 0 ≤ x ∧ x ≤ 1000000000000) (hk : -10000 ≤ k ∧ k ≤ 10000) : mulDivF x (10000 + k) 10000 0 = (pt x k, 0) := by
  have h0 : 0 ≤ x * (10000 + k) := Int.mul_nonneg hx.1 (by omega)
  have h1 : x * (10000 + k) ≤ 1000000000000 * 20000 := Int.mul_le_mul hx.2 (by omega) (by omega) (by omega)
  have hr := rnd_down (x * (10000 + k)) 10000 (by decide)
  have e : rnd (x * (10000 + k)) 10000 0 = pt x k := by
    unfold pt
    generalize rnd (x * (10000 + k)) 10000 0 = r at *
    generalize x * (10000 + k) = n at *
    omega
  unfold mulDivF
  rw [(fits_iff x).2 (by omega), (fits_iff (10000 + k)).2 (by omega), show fits 10000 = true by decide, e, okv_fits]
  · rfl
  · rw [fits_iff]; unfold pt
    generalize x * (10000 + k) = n at *
    omega
def placed (p v s : Int) : Prop := 0 ≤ s ∧ s ≤ 20 ∧ 0 ≤ p ∧ p ≤ 1000000000000 ∧ 0 ≤ v ∧ v ≤ 50000
instance (p v s : Int) : Decidable (placed p v s) := by unfold placed; exact inferInstance
/-- a scenario's price, volatility, error -/
def pointF (p v s : Int) : Int × Int × Int := if placed p v s then (pt p (shiftOf s.toNat), pt v (volOf s.toNat), 0) else (0, 0, 1)
theorem ret_three {a b c d e f : Int} (h : a = d) (h2 : b = e) (h3 : c = f) : Ending.returned (.tuple #[.int .i64 a, .int .i64 b, .int .i64 c]) = .returned (.tuple #[.int .i64 d, .int .i64 e, .int .i64 f]) := by rw [h, h2, h3]

theorem shift_lim (s : Nat) (h : s < 21) : -2000 ≤ shiftOf s ∧ shiftOf s ≤ 2000 ∧ -2500 ≤ volOf s ∧ volOf s ≤ 2500 := by
  have : ∀ s, s < 21 → -2000 ≤ shiftOf s ∧ shiftOf s ≤ 2000 ∧ -2500 ≤ volOf s ∧ volOf s ≤ 2500 := by decide
  exact this s h

theorem unplaced {p v s : Int} (h : ¬ placed p v s) : s < 0 ∨ (¬ s < 0 ∧ 21 ≤ s) ∨ (¬ s < 0 ∧ ¬ 21 ≤ s ∧ p < 0) ∨ (¬ s < 0 ∧ ¬ 21 ≤ s ∧ ¬ p < 0 ∧ 1000000000000 < p) ∨ (¬ s < 0 ∧ ¬ 21 ≤ s ∧ ¬ p < 0 ∧ ¬ 1000000000000 < p ∧ v < 0) ∨ (¬ s < 0 ∧ ¬ 21 ≤ s ∧ ¬ p < 0 ∧ ¬ 1000000000000 < p ∧ ¬ v < 0 ∧ 50000 < v) := by
  unfold placed at h; omega

set_option maxHeartbeats 1000000 in
theorem point_calls (p v s : Int) (w : World) (ht : Tab w) :
    Calls Tryd.prog 13 #[.int .i64 p, .int .i64 v, .int .i64 s] w fun e w' =>
      e = .returned (.tuple #[.int .i64 (pointF p v s).1, .int .i64 (pointF p v s).2.1, .int .i64 (pointF p v s).2.2]) ∧ ∃ n, w.drewN n = w' := by
  by_cases h : placed p v s
  · have e : pointF p v s = (pt p (shiftOf s.toNat), pt v (volOf s.toNat), 0) := by unfold pointF; rw [if_pos h]
    have E := Lib.hid e
    clear e
    unfold placed at h
    obtain ⟨n, rfl⟩ : ∃ n : Nat, s = (n : Int) := ⟨s.toNat, by omega⟩
    have hl := shift_lim n (by omega)
    have c1 := ht.shift (n / 3) (by omega)
    have c2 := ht.vol (n % 3) (by omega)
    rw [show shifts.getD (n / 3) 0 = shiftOf n from rfl] at c1
    rw [show vols.getD (n % 3) 0 = volOf n from rfl] at c2
    have E' := Lib.hid (show pointF p v (n : Int) = (pt p (shiftOf n), pt v (volOf n), 0) from E.out)
    clear E ht
    have M1 := fun W => muldiv_calls p (10000 + shiftOf n) 10000 0 W (by unfold I64; omega) (by unfold I64; omega) (by unfold I64; omega)
    have M2 := fun W => muldiv_calls v (10000 + volOf n) 10000 0 W (by unfold I64; omega) (by unfold I64; omega) (by unfold I64; omega)
    rw [pt_muldiv p _ (by omega) (by omega)] at M1
    rw [pt_muldiv v _ (by omega) (by omega)] at M2
    have H1 := Lib.hid M1
    have H2 := Lib.hid M2
    clear M1 M2
    generalize shiftOf n = a at *
    generalize volOf n = b at *
    generalize pt p a = x at *
    generalize pt v b = y at *
    go_enter Tryd.func13, Tryd.ntmps13
    go_wp2_with (first | (go_at_call 21; refine (H1.out _).mono ?_; rintro e w' ⟨rfl, n1, rfl⟩; clear H1) | (go_at_call 21; refine (H2.out _).mono ?_; rintro e w' ⟨rfl, n2, rfl⟩; clear H2))
    go_ret3
    exact ⟨by rw [E'.out]; exact ret_three rfl rfl rfl, _, rfl⟩
  · have e : pointF p v s = (0, 0, 1) := by unfold pointF; rw [if_neg h]
    have E := Lib.hid e
    clear e ht
    rcases unplaced h with h | ⟨h1, h⟩ | ⟨h1, h2, h⟩ | ⟨h1, h2, h3, h⟩ | ⟨h1, h2, h3, h4, h⟩ | ⟨h1, h2, h3, h4, h5, h⟩
    all_goals
      go_enter Tryd.func13, Tryd.ntmps13
      go_wp2_with fail
      go_ret3
      exact ⟨by rw [E.out]; exact ret_three rfl rfl rfl, 0, rfl⟩

set_option maxHeartbeats 1000000 in
theorem rpoint_calls (p v s : Int) (w : World) :
    Calls Tryd.prog 14 #[.int .i64 p, .int .i64 v, .int .i64 s] w fun e w' =>
      e = .returned (.tuple #[.int .i64 (pointF p v s).1, .int .i64 (pointF p v s).2.1, .int .i64 (pointF p v s).2.2]) ∧ Below w.heap.size w w' := by
  have F := fun W => rfits_calls' p v W
  by_cases h : placed p v s
  · have e : pointF p v s = (pt p (shiftOf s.toNat), pt v (volOf s.toNat), 0) := by unfold pointF; rw [if_pos h]
    have E := Lib.hid e
    clear e
    unfold placed at h
    rw [show placeIn p v = true by unfold placeIn; simp; omega] at F
    have HF := Lib.hid F
    clear F
    obtain ⟨n, rfl⟩ : ∃ n : Nat, s = (n : Int) := ⟨s.toNat, by omega⟩
    have hl := shift_lim n (by omega)
    have E' := Lib.hid (show pointF p v (n : Int) = (pt p (shiftOf n), pt v (volOf n), 0) from E.out)
    clear E
    have S := fun W => shift_calls n W (by omega)
    have M1 := fun W => rmuldiv_calls p (10000 + shiftOf n) 10000 0 W (by unfold I64; omega) (by unfold I64; omega) (by unfold I64; omega)
    have M2 := fun W => rmuldiv_calls v (10000 + volOf n) 10000 0 W (by unfold I64; omega) (by unfold I64; omega) (by unfold I64; omega)
    rw [pt_muldiv p _ (by omega) (by omega)] at M1
    rw [pt_muldiv v _ (by omega) (by omega)] at M2
    have H1 := Lib.hid M1
    have H2 := Lib.hid M2
    have HS := Lib.hid S
    clear M1 M2 S
    generalize shiftOf n = a at *
    generalize volOf n = b at *
    generalize pt p a = x at *
    generalize pt v b = y at *
    go_enter Tryd.func14, Tryd.ntmps14
    go_wp2_with (first | (go_at_call 20; refine (HF.out _).mono ?_; rintro e w' ⟨rfl, rfl⟩) | (go_at_call 16; refine (HS.out _).mono ?_; rintro e w1 ⟨rfl, b1⟩; have x1 := Box.new w1 39 #[.int .i64 a, .int .i64 b]; have g0 := x1.cell 0; have g1 := x1.cell 1; have hB1 := b1.alloc b1.size (.cells #[.int .i64 a, .int .i64 b] 39); have hz := hB1.size) | (go_at_call 22; refine (H1.out _).mono ?_; rintro e w2 ⟨rfl, b2⟩; clear H1 g0 g1; have x2 := x1.keep b2; have g1 := x2.cell 1; have hB2 := hB1.trans (b2.mono hB1.size)) | (go_at_call 22; refine (H2.out _).mono ?_; rintro e w3 ⟨rfl, b3⟩; clear H2; have hB3 := hB2.trans (b3.mono hB2.size)))
    go_ret3
    exact ⟨by rw [E'.out]; exact ret_three rfl rfl rfl, hB3⟩
  · have e : pointF p v s = (0, 0, 1) := by unfold pointF; rw [if_neg h]
    have E := Lib.hid e
    clear e
    by_cases h1 : s < 0
    · clear F
      go_enter Tryd.func14, Tryd.ntmps14
      go_wp2_with fail
      go_ret3
      exact ⟨by rw [E.out]; exact ret_three rfl rfl rfl, Below.refl _ _⟩
    · by_cases h2 : 20 < s
      · clear F
        go_enter Tryd.func14, Tryd.ntmps14
        go_wp2_with fail
        go_ret3
        exact ⟨by rw [E.out]; exact ret_three rfl rfl rfl, Below.refl _ _⟩
      · rw [show placeIn p v = false by unfold placed at h; simp only [placeIn]; rw [Bool.eq_false_iff]; simp; omega] at F
        have HF := Lib.hid F
        clear F
        go_enter Tryd.func14, Tryd.ntmps14
        go_wp2_with (go_at_call 20; refine (HF.out _).mono ?_; rintro e w' ⟨rfl, rfl⟩)
        go_ret3
        exact ⟨by rw [E.out]; exact ret_three rfl rfl rfl, Below.refl _ _⟩
end Go.Proofs.YtjfcghbifhmacaaDoor.GridW
