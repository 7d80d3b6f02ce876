/- math/bits.Div64: long division. -/
import Derived.Test.YtghcbkkabhlchaaDoorFixpWalks
import Derived.Test.YtghcbkkabhlchaaDoorFixpDivMath
import Derived.Laws.ShiftsVarLaws
import Derived.Deep.DeepCutAuto
import Derived.Deep.CutBlock
namespace Go.Proofs.YtghcbkkabhlchaaDoor.FixpW
open Go.RowKit Go.Proofs.YtghcbkkabhlchaaDoor.Bas Go.Proofs.YtghcbkkabhlchaaDoor.FixpM

theorem ret_u2 {a b c d : Int} (h : a = c) (h2 : b = d) : Ending.returned (.tuple #[.int .u64 a, .int .u64 b]) = .returned (.tuple #[.int .u64 c, .int .u64 d]) := by rw [h, h2]

set_option maxRecDepth 100000 in
set_option maxHeartbeats 1000000 in
theorem div_low (lo y : Nat) (w : World) (hy : 0 < y) (hlo : lo < 18446744073709551616) :
    Calls Tryd.prog 27 #[.int .u64 0, .int .u64 lo, .int .u64 y] w fun e w' => e = .returned (.tuple #[.int .u64 ((lo / y : Nat) : Int), .int .u64 ((lo % y : Nat) : Int)]) ∧ ∃ n, w.drewN n = w' := by
  have hle : lo / y ≤ lo := Nat.div_le_self _ _
  have e1 : IntKind.u64.wrap ((lo : Int) / (y : Int)) = ((lo / y : Nat) : Int) := wrap_nat (lo / y) (by omega)
  have E1 := Lib.hid e1
  clear e1 hle
  go_enter Tryd.func27, Tryd.ntmps27
  go_wp2_with fail
  go_quiet (fail)
  go_wp2_with fail
  go_ret2
  refine ⟨ret_u2 E1.out (by simp), nq, rfl⟩

/-- what a round of the digit's loop knows -/
structure Rel (Y v1 v0 U c q r : Nat) : Prop where
  le : dig 4294967296 Y U c ≤ q
  most : q ≤ 4294967297
  small : r < 4294967296
  eq : U = q * v1 + r

theorem rel_start {Y v1 v0 U c q r : Nat} (hY : Y = v1 * 4294967296 + v0) (hv0 : v0 < 4294967296) (hv1 : 2147483648 ≤ v1) (hv1' : v1 < 4294967296) (hc : c < 4294967296) (hU : U < Y) (hq : U = q * v1 + r) (hr : r < v1) : Rel Y v1 v0 U c q r :=
  ⟨dig_le_est hY (by omega) (by omega) hc hq hr, est_le hY hv0 (by omega) hU hq, by omega, hq⟩

/-- a round: two ways to take one off, one way out -/
theorem step_all {Y v1 v0 U c q r : Nat} (hY : Y = v1 * 4294967296 + v0) (hv0 : v0 < 4294967296) (hv1 : 2147483648 ≤ v1) (hv1' : v1 < 4294967296) (hc : c < 4294967296) (hd : dig 4294967296 Y U c < 4294967296) (h : Rel Y v1 v0 U c q r) :
    ∃ q' r' : Nat,
      ((4294967296 : Int) ≤ (q : Int) ∧ IntKind.u64.wrap ((q : Int) - 1) = (q' : Int) ∧ IntKind.u64.wrap ((r : Int) + (v1 : Int)) = (r' : Int) ∧
        (q' < q ∧ (r' < 4294967296 → Rel Y v1 v0 U c q' r') ∧ (4294967296 ≤ r' → q' = dig 4294967296 Y U c))) ∨
      (¬ (4294967296 : Int) ≤ (q : Int) ∧ ∃ P T : Nat, IntKind.u64.wrap ((q : Int) * (v0 : Int)) = (P : Int) ∧ IntKind.u64.wrap (IntKind.u64.wrap (4294967296 * (r : Int)) + (c : Int)) = (T : Int) ∧ (T : Int) < (P : Int) ∧
        IntKind.u64.wrap ((q : Int) - 1) = (q' : Int) ∧ IntKind.u64.wrap ((r : Int) + (v1 : Int)) = (r' : Int) ∧
        (q' < q ∧ (r' < 4294967296 → Rel Y v1 v0 U c q' r') ∧ (4294967296 ≤ r' → q' = dig 4294967296 Y U c))) ∨
      (¬ (4294967296 : Int) ≤ (q : Int) ∧ ∃ P T : Nat, IntKind.u64.wrap ((q : Int) * (v0 : Int)) = (P : Int) ∧ IntKind.u64.wrap (IntKind.u64.wrap (4294967296 * (r : Int)) + (c : Int)) = (T : Int) ∧ ¬ (T : Int) < (P : Int) ∧ q = dig 4294967296 Y U c) := by
  obtain ⟨h1, h2, h3, h4⟩ := h
  have down : dig 4294967296 Y U c < q → ∃ q' r' : Nat, IntKind.u64.wrap ((q : Int) - 1) = (q' : Int) ∧ IntKind.u64.wrap ((r : Int) + (v1 : Int)) = (r' : Int) ∧
        (q' < q ∧ (r' < 4294967296 → Rel Y v1 v0 U c q' r') ∧ (4294967296 ≤ r' → q' = dig 4294967296 Y U c)) := by
    intro hlt
    obtain ⟨k, rfl⟩ : ∃ k, q = k + 1 := ⟨q - 1, by omega⟩
    have e : U = k * v1 + (r + v1) := by rw [h4, Nat.add_mul, Nat.one_mul]; omega
    refine ⟨k, r + v1, wrap_u _ _ (by omega), wrap_u _ _ (by omega), by omega, fun hr => ⟨by omega, by omega, hr, e⟩, fun hr => ?_⟩
    have : k ≤ dig 4294967296 Y U c := le_of_test hY (by omega) e (by
      have h5 : k * v0 ≤ 4294967296 * v0 := Nat.mul_le_mul_right _ (by omega)
      have h6 : 4294967296 * v0 ≤ 4294967296 * (r + v1) := Nat.mul_le_mul_left _ (by omega)
      omega)
    omega
  by_cases hb : 4294967296 ≤ q
  · obtain ⟨q', r', a, b, c'⟩ := down (by omega)
    exact ⟨q', r', .inl ⟨by omega, a, b, c'⟩⟩
  · have hp1 : q * v0 < 18446744073709551616 := by
      have h5 : q * v0 ≤ q * 4294967296 := Nat.mul_le_mul_left _ (by omega)
      omega
    have e0 : IntKind.u64.wrap ((q : Int) * (v0 : Int)) = ((q * v0 : Nat) : Int) := by
      have : (q : Int) * (v0 : Int) = ((q * v0 : Nat) : Int) := by simp
      rw [this]; exact wrap_nat _ hp1
    have e3 : IntKind.u64.wrap (IntKind.u64.wrap (4294967296 * (r : Int)) + (c : Int)) = ((4294967296 * r + c : Nat) : Int) := by
      rw [wrap_u (4294967296 * (r : Int)) (4294967296 * r) (by omega)]
      exact wrap_u _ _ (by omega)
    by_cases ht : 4294967296 * r + c < q * v0
    · obtain ⟨q', r', a, b, c'⟩ := down (over_of_test hY (by omega) h4 ht)
      exact ⟨q', r', .inr (.inl ⟨by omega, _, _, e0, e3, by omega, a, b, c'⟩)⟩
    · have := le_of_test hY (by omega) h4 (Nat.le_of_not_lt ht)
      exact ⟨0, 0, .inr (.inr ⟨by omega, _, _, e0, e3, by omega, by omega⟩)⟩

set_option maxRecDepth 100000 in
set_option maxHeartbeats 4000000 in
theorem div_high (hi lo y s : Nat) (w : World) (hh : 0 < hi) (hy : hi < y) (hy2 : y < 18446744073709551616) (hlo : lo < 18446744073709551616) (hs : s < 64) (hl : Lib.bitLen y = 64 - s) :
    Calls Tryd.prog 27 #[.int .u64 hi, .int .u64 lo, .int .u64 y] w fun e w' => e = .returned (.tuple #[.int .u64 (((hi * 18446744073709551616 + lo) / y : Nat) : Int), .int .u64 (((hi * 18446744073709551616 + lo) % y : Nat) : Int)]) ∧ w = w' := by
  obtain ⟨Y, v1, v0, H, l1, U, X, c1, c0, HP⟩ := prep hi lo y s hy hy2 hlo hs hl
  obtain ⟨eY, ev1, ev0, eH, el1, eU, eX, ec1, ec0, hY, hv0, hv1, hv1', hc1, hc0, hU, hYlt, hN, hYs⟩ := HP
  have L : Calls Tryd.prog 42 #[.int .u64 (y : Int)] w fun e w' => e = .returned (.int .i64 (s : Int)) ∧ w' = w := by
    have := Tryd.bits_LeadingZeros64 y w (by omega) (by omega)
    rw [Int.toNat_natCast, hl, show (64 : Int) - ((64 - s : Nat) : Int) = (s : Int) by omega] at this
    exact this
  have HL := Lib.hid L
  have HY := Lib.hid hY
  have HN := Lib.hid hN
  have HYs := Lib.hid hYs
  clear L hY hN hYs hl
  obtain ⟨q0, r0, et, ed, er, hUq, hr0, hq0⟩ := est U v1 (by omega) (by omega)
  have HUq := Lib.hid hUq
  clear hUq
  go_enter Tryd.func27, Tryd.ntmps27
  go_wp2_with fail
  refine HL.out.mono ?_
  rintro e w' ⟨rfl, rfl⟩
  go_upto_block 0 with (fail)
  clear eY ev1 ev0 eH el1 eU eX ec1 ec0 et ed er
  have START := Lib.hid (rel_start HY.out hv0 hv1 hv1' hc1 hU HUq.out hr0)
  have hdlt0 := dig_lt (B := 4294967296) hU hc1
  go_cut [15] (fun a wc => ∃ q : Nat, a = .int .u64 q ∧ q = dig 4294967296 Y U c1 ∧ w' = wc)
  case first =>
    go_wp2_with fail
    go_loop [15, 16] (fun a b => ∃ q r : Nat, a = .int .u64 q ∧ b = .int .u64 r ∧ Hid (Rel Y v1 v0 U c1 q r)) (fun a _ => (intOf a).toNat)
    case atStart => exact ⟨_, _, rfl, rfl, START⟩
    case round =>
      clear START
      obtain ⟨q, r, rfl, rfl, HR⟩ := hrel
      obtain ⟨q', r', hS⟩ := step_all HY.out hv0 hv1 hv1' hc1 hdlt0 HR.out
      rcases hS with ⟨hb, e1, e2, hg⟩ | ⟨hb, P, T, e0, e3, ht, e1, e2, hg⟩ | ⟨hb, P, T, e0, e3, ht, hd⟩
      · have HG := Lib.hid hg
        clear hg hdlt0
        by_cases hbr : (4294967296 : Int) ≤ (r' : Int)
        · have HC : Hid (q' = dig 4294967296 Y U c1) := HG.out.2.2 (by omega)
          go_wp2_with fail
          go_meet
          case rel => exact ⟨q', rfl, HC.out, rfl⟩
        · have HS : Hid (Rel Y v1 v0 U c1 q' r') := HG.out.2.1 (by omega)
          go_wp2_with fail
          go_round
          case rel => exact ⟨q', r', rfl, rfl, HS⟩
          case measure => have := HG.out.1; simp [intOf]; omega
      · have HG := Lib.hid hg
        clear hg hdlt0
        by_cases hbr : (4294967296 : Int) ≤ (r' : Int)
        · have HC : Hid (q' = dig 4294967296 Y U c1) := HG.out.2.2 (by omega)
          go_wp2_with fail
          go_meet
          case rel => exact ⟨q', rfl, HC.out, rfl⟩
        · have HS : Hid (Rel Y v1 v0 U c1 q' r') := HG.out.2.1 (by omega)
          go_wp2_with fail
          go_round
          case rel => exact ⟨q', r', rfl, rfl, HS⟩
          case measure => have := HG.out.1; simp [intOf]; omega
      · have HC := Lib.hid hd
        clear hd hdlt0
        go_wp2_with fail
        go_meet
        case rel => exact ⟨q, rfl, HC.out, rfl⟩
  case rest =>
    clear START hdlt0 HUq hr0 hq0
    obtain ⟨q1, rfl, hq1, rfl⟩ := hcut
    obtain ⟨U1, eR, hU1, hU1lt⟩ := rest U c1 q1 Y (by omega) hYlt hq1
    obtain ⟨q2, r2, et, ed, er, hUq2, hr2, hq2⟩ := est U1 v1 (by omega) (by omega)
    have HQ1 := Lib.hid hq1
    have HU1 := Lib.hid hU1
    have HUq2 := Lib.hid hUq2
    clear hq1 hU1 hUq2
    go_upto_block 2 with (fail)
    clear eR et ed er
    have START := Lib.hid (rel_start HY.out hv0 hv1 hv1' hc0 hU1lt HUq2.out hr2)
    have hdlt0 := dig_lt (B := 4294967296) hU1lt hc0
    go_cut [18] (fun a wc => ∃ q : Nat, a = .int .u64 q ∧ q = dig 4294967296 Y U1 c0 ∧ w' = wc)
    case first =>
      go_wp2_with fail
      go_loop [18, 16] (fun a b => ∃ q r : Nat, a = .int .u64 q ∧ b = .int .u64 r ∧ Hid (Rel Y v1 v0 U1 c0 q r)) (fun a _ => (intOf a).toNat)
      case atStart => exact ⟨_, _, rfl, rfl, START⟩
      case round =>
        clear START
        obtain ⟨q, r, rfl, rfl, HR⟩ := hrel
        obtain ⟨q', r', hS⟩ := step_all HY.out hv0 hv1 hv1' hc0 hdlt0 HR.out
        rcases hS with ⟨hb, e1, e2, hg⟩ | ⟨hb, P, T, e0, e3, ht, e1, e2, hg⟩ | ⟨hb, P, T, e0, e3, ht, hd⟩
        · have HG := Lib.hid hg
          clear hg hdlt0
          by_cases hbr : (4294967296 : Int) ≤ (r' : Int)
          · have HC : Hid (q' = dig 4294967296 Y U1 c0) := HG.out.2.2 (by omega)
            go_wp2_with fail
            go_meet
            case rel => exact ⟨q', rfl, HC.out, rfl⟩
          · have HS : Hid (Rel Y v1 v0 U1 c0 q' r') := HG.out.2.1 (by omega)
            go_wp2_with fail
            go_round
            case rel => exact ⟨q', r', rfl, rfl, HS⟩
            case measure => have := HG.out.1; simp [intOf]; omega
        · have HG := Lib.hid hg
          clear hg hdlt0
          by_cases hbr : (4294967296 : Int) ≤ (r' : Int)
          · have HC : Hid (q' = dig 4294967296 Y U1 c0) := HG.out.2.2 (by omega)
            go_wp2_with fail
            go_meet
            case rel => exact ⟨q', rfl, HC.out, rfl⟩
          · have HS : Hid (Rel Y v1 v0 U1 c0 q' r') := HG.out.2.1 (by omega)
            go_wp2_with fail
            go_round
            case rel => exact ⟨q', r', rfl, rfl, HS⟩
            case measure => have := HG.out.1; simp [intOf]; omega
        · have HC := Lib.hid hd
          clear hd hdlt0
          go_wp2_with fail
          go_meet
          case rel => exact ⟨q, rfl, HC.out, rfl⟩
    case rest =>
      clear START hdlt0 HUq2 hr2 hq2
      obtain ⟨q3, rfl, hq3, rfl⟩ := hcut
      obtain ⟨R, eR, hR, hRlt⟩ := rest U1 c0 q3 Y (by omega) hYlt hq3
      have HQ3 := Lib.hid hq3
      have HR := Lib.hid hR
      clear hq3 hR
      go_wp2_with fail
      go_ret2
      have hsc := scaled (hi * 18446744073709551616 + lo) y s _ _ rfl rfl
      rw [HN.out, ← HYs.out] at hsc
      have hdp := div_parts Y q1 U1 U 4294967296 c1 c0 (by omega) HQ1.out HU1.out
      rw [hdp.1, hdp.2, ← HR.out] at hsc
      have hq3' : (U1 * 4294967296 + c0) / Y = q3 := HQ3.out.symm
      rw [hq3'] at hsc
      have l1 : q1 < 4294967296 := by rw [HQ1.out]; exact dig_lt hU hc1
      have l3 : q3 < 4294967296 := by rw [HQ3.out]; exact dig_lt hU1lt hc0
      refine ⟨ret_u2 ?_ ?_, rfl⟩
      · rw [hsc.1]
        simp only [IntKind.wrap_u64]
        omega
      · rw [hsc.2]; simp

theorem div_calls (hi lo y : Nat) (w : World) (hy : hi < y) (hy2 : y < 18446744073709551616) (hlo : lo < 18446744073709551616) :
    Calls Tryd.prog 27 #[.int .u64 hi, .int .u64 lo, .int .u64 y] w fun e w' => e = .returned (.tuple #[.int .u64 (((hi * 18446744073709551616 + lo) / y : Nat) : Int), .int .u64 (((hi * 18446744073709551616 + lo) % y : Nat) : Int)]) ∧ ∃ n, w.drewN n = w' := by
  rcases Nat.eq_zero_or_pos hi with h0 | h0
  · subst h0
    have := div_low lo y w (by omega) hlo
    rw [Nat.zero_mul, Nat.zero_add]
    exact this
  · have hb := Lib.bitLenAux_bounds 64 y hy2 (by omega)
    have hb2 := Lib.bitLen_le y 64 (Nat.le_refl _) hy2
    have hb1 : 1 ≤ Lib.bitLen y := hb.1
    exact (div_high hi lo y (64 - Lib.bitLen y) w h0 hy hy2 hlo (by omega) (by omega)).mono fun e w' ⟨he, hw⟩ => ⟨he, 0, hw⟩
end Go.Proofs.YtghcbkkabhlchaaDoor.FixpW
