/- The document's own answers of layer 1: the walks. -/
import Derived.Test.YtghcbkkabhlchaaDoorFixpMulDiv
namespace Go.Proofs.YtghcbkkabhlchaaDoor.FixpR
open Go.RowKit Go.Proofs.YtghcbkkabhlchaaDoor.Bas Go.Proofs.YtghcbkkabhlchaaDoor.FixpM Go.Proofs.YtghcbkkabhlchaaDoor.FixpW

theorem or_even (x t : Nat) (hx : x % 2 = 0) (ht : t < 2) (hxl : x < 18446744073709551616) : bits .or .u64 (x : Int) (t : Int) = ((x + t : Nat) : Int) := by
  rw [u64_or_nat _ _ hxl (by omega), nat_join 1 x t (by simpa using hx) (by simpa using ht)]

set_option maxHeartbeats 1000000 in
theorem twice_calls (h l bit : Nat) (w : World) (hl : l < 18446744073709551616) (hb : bit < 2) :
    Calls Tryd.prog 43 #[.agg #[.int .u64 h, .int .u64 l], .int .u64 bit] w fun e w' =>
      e = .returned (.agg #[.int .u64 ((2 * h % 18446744073709551616 + l / 9223372036854775808 : Nat) : Int), .int .u64 ((2 * l % 18446744073709551616 + bit : Nat) : Int)]) ∧ Below w.heap.size w w' := by
  obtain ⟨h2, e2⟩ : ∃ h2, h2 = 2 * h % 18446744073709551616 := ⟨_, rfl⟩
  obtain ⟨l2, e3⟩ : ∃ l2, l2 = 2 * l % 18446744073709551616 := ⟨_, rfl⟩
  obtain ⟨t, e4⟩ : ∃ t, t = l / 9223372036854775808 := ⟨_, rfl⟩
  have E1 : IntKind.u64.wrap ((h : Int) * 2) = (h2 : Int) := wrap_u _ _ (by omega)
  have E2 : (l : Int) / 9223372036854775808 = (t : Int) := by omega
  have E3 : IntKind.u64.wrap ((l : Int) * 2) = (l2 : Int) := wrap_u _ _ (by omega)
  have E4 := or_even h2 t (by omega) (by omega) (by omega)
  have E5 := or_even l2 bit (by omega) (by omega) (by omega)
  rw [← e2, ← e3, ← e4]
  generalize h2 + t = x1 at E4 ⊢
  generalize l2 + bit = x2 at E5 ⊢
  clear e2 e3 e4
  go_enter Tryd.func43, Tryd.ntmps43
  go_wp2_with fail
  refine bodyPost_ret (v := .agg #[.int .u64 (x1 : Int), .int .u64 (x2 : Int)]) (by simp [results, Tryd.results43, go_sem]) rfl ⟨rfl, ((Below.refl _ _).alloc (Nat.le_refl _) _).alloc (by simp) _⟩

theorem shr_int (b j : Nat) : (b : Int) / 2 ^ j = ((b / 2 ^ j : Nat) : Int) := by simp
theorem bit_at (b j : Nat) (hb : b < 18446744073709551616) : bits .and .u64 ((b : Int) / 2 ^ j) 1 = ((b / 2 ^ j % 2 : Nat) : Int) := by
  rw [shr_int]
  have h1 : b / 2 ^ j ≤ b := Nat.div_le_self _ _
  have := u64_and_nat (b / 2 ^ j) 1 (by omega) (by omega)
  rw [nat_mask1] at this
  exact this
theorem bits_up (b j : Nat) : b / 2 ^ j = 2 * (b / 2 ^ (j + 1)) + b / 2 ^ j % 2 := by
  rw [Nat.pow_succ, ← Nat.div_div_eq_div_mul]; omega

/-- a wide number's halves -/
def hiN (W : Nat) : Nat := W / 18446744073709551616
def loN (W : Nat) : Nat := W % 18446744073709551616
theorem wide_twice (W bit : Nat) (h : 2 * W + bit < 340282366920938463463374607431768211456) (hb : bit < 2) :
    2 * hiN W % 18446744073709551616 + loN W / 9223372036854775808 = hiN (2 * W + bit) ∧ 2 * loN W % 18446744073709551616 + bit = loN (2 * W + bit) := by
  unfold hiN loN; omega
theorem wide_add (W a : Nat) (ha : a < 18446744073709551616) :
    (loN W + a) % 18446744073709551616 = loN (W + a) ∧ (loN (W + a) < a → hiN W + 1 = hiN (W + a)) ∧ (¬ loN (W + a) < a → hiN W = hiN (W + a)) := by
  unfold hiN loN; omega
theorem lo_lt (W : Nat) : loN W < 18446744073709551616 := by unfold loN; omega
theorem hi_lt (W : Nat) (h : W < 340282366920938463463374607431768211456) : hiN W < 18446744073709551616 := by unfold hiN; omega

set_option maxHeartbeats 2000000 in
theorem times_calls (a b : Nat) (w : World) (ha : a < 18446744073709551616) (hb : b < 18446744073709551616) :
    Calls Tryd.prog 32 #[.int .u64 a, .int .u64 b] w fun e w' =>
      e = .returned (.agg #[.int .u64 (hiN (a * b) : Nat), .int .u64 (loN (a * b) : Nat)]) ∧ Below w.heap.size w w' := by
  go_enter Tryd.func32, Tryd.ntmps32
  go_wp2_with fail
  obtain ⟨w0, hw0⟩ : ∃ w0, w0 = (w.alloc (.cells #[.int .u64 0, .int .u64 0] 52)).alloc (.cells #[.int .u64 0, .int .u64 0] 52) := ⟨_, rfl⟩
  have x0 : Box w0 w.heap.size 52 #[.int .u64 0, .int .u64 0] := by rw [hw0]; exact (Box.new _ _ _).alloc _
  have x1 : Box w0 (w.heap.size + 1) 52 #[.int .u64 0, .int .u64 0] := by
    rw [hw0]
    have := Box.new (w.alloc (.cells #[.int .u64 0, .int .u64 0] 52)) 52 #[.int .u64 0, .int .u64 0]
    simpa using this
  have hB0 : Below w.heap.size w w0 := by rw [hw0]; exact ((Below.refl _ _).alloc (Nat.le_refl _) _).alloc (by simp) _
  rw [← hw0]
  clear hw0
  go_loopw [6] (fun i wr => ∃ j : Nat, j ≤ 64 ∧ i = .int .i64 ((j : Int) - 1) ∧ Box wr w.heap.size 52 #[.int .u64 0, .int .u64 0] ∧
      Box wr (w.heap.size + 1) 52 #[.int .u64 (hiN (a * (b / 2 ^ j)) : Nat), .int .u64 (loN (a * (b / 2 ^ j)) : Nat)] ∧ Below w.heap.size w wr) (fun i _ => (intOf i + 1).toNat)
  case atStart =>
    refine ⟨64, by omega, rfl, x0, ?_, hB0⟩
    rw [Nat.div_eq_of_lt (show b < 2 ^ 64 from hb), Nat.mul_zero]
    exact x1
  case round =>
    clear x0 x1 hB0
    obtain ⟨j, hj, rfl, y0, y1, hbr⟩ := hrel
    cases j with
    | zero =>
      have c0 := y1.cell 0
      have c1 := y1.cell 1
      have d0 := y0.cell 0
      have d1 := y0.cell 1
      have f0 := y0.frozen
      simp only [Nat.pow_zero, Nat.div_one] at c0 c1
      have hbe := (hbr.setCell (p := ⟨w.heap.size, 0, none⟩) (Nat.le_refl _) (.int .u64 (hiN (a * b) : Nat))).setCell (p := ⟨w.heap.size, 1, none⟩) (Nat.le_refl _) (.int .u64 (loN (a * b) : Nat))
      have hz : ((0 : Nat) : Int) - 1 = -1 := by omega
      rw [hz]
      have r := (y0.set 0 (.int .u64 (hiN (a * b) : Nat))).set 1 (.int .u64 (loN (a * b) : Nat))
      have r0 := Lib.hid (r.cell 0)
      have r1 := Lib.hid (r.cell 1)
      obtain ⟨H, hH⟩ : ∃ H, H = hiN (a * b) := ⟨_, rfl⟩
      obtain ⟨L, hL⟩ : ∃ L, L = loN (a * b) := ⟨_, rfl⟩
      rw [← hH, ← hL] at c0 c1 hbe r0 r1
      have HH := Lib.hid hH
      have HL := Lib.hid hL
      clear y0 y1 r hH hL
      go_wp2_with fail
      have r0' := r0.out
      have r1' := r1.out
      refine bodyPost_ret (v := .agg #[.int .u64 (H : Int), .int .u64 (L : Int)]) (by simp [results, Tryd.results32, go_sem, r0', r1']) rfl ⟨by rw [HH.out, HL.out], hbe⟩
    | succ k =>
      have hk : (((k + 1 : Nat) : Int) - 1) = (k : Int) := by omega
      rw [hk]
      have hsplit := bits_up b k
      have hbit := bit_at b k hb
      obtain ⟨W, hW⟩ : ∃ W, W = a * (b / 2 ^ (k + 1)) := ⟨_, rfl⟩
      obtain ⟨t, ht⟩ : ∃ t, t = b / 2 ^ k % 2 := ⟨_, rfl⟩
      rw [← ht] at hsplit hbit
      rw [← hW] at y1
      have hnew : a * (b / 2 ^ k) = 2 * W + a * t := by rw [hsplit, Nat.mul_add, hW, Nat.mul_left_comm]
      have hlt : a * (b / 2 ^ k) < 340282366920938463463374607431768211456 := by
        have h1 : b / 2 ^ k ≤ b := Nat.div_le_self _ _
        have h2 : a * (b / 2 ^ k) ≤ 18446744073709551616 * (b / 2 ^ k) := Nat.mul_le_mul_right _ (by omega)
        omega
      have ht2 : t < 2 := by omega
      have c0 := y1.cell 0
      have c1 := y1.cell 1
      have T := fun W' => twice_calls (hiN W) (loN W) 0 W' (lo_lt W) (by omega)
      have hw2 := wide_twice W 0 (by omega) (by omega)
      rw [hw2.1, hw2.2, Nat.add_zero] at T
      have HT := Lib.hid T
      clear T hw2 ht hsplit hW
      go_wp2_with fail
      refine (HT.out _).mono ?_
      rintro e w2 ⟨rfl, hb2⟩
      have z0 := y0.keep hb2
      have z1 := y1.keep hb2
      have f1 := z1.frozen
      have e0 := z1.cell 0
      have e1 := z1.cell 1
      have hbr2 := hbr.trans (hb2.mono hbr.size)
      clear y0 y1 c0 c1 hb2 hbr
      have q1 := (z1.set 0 (.int .u64 (hiN (2 * W) : Nat))).set 1 (.int .u64 (loN (2 * W) : Nat))
      have q0 := (z0.far (p := ⟨w.heap.size + 1, 0, none⟩) (by simp) (.int .u64 (hiN (2 * W) : Nat))).far (p := ⟨w.heap.size + 1, 1, none⟩) (by simp) (.int .u64 (loN (2 * W) : Nat))
      have hb3 := (hbr2.setCell (p := ⟨w.heap.size + 1, 0, none⟩) (by simp) (.int .u64 (hiN (2 * W) : Nat))).setCell (p := ⟨w.heap.size + 1, 1, none⟩) (by simp) (.int .u64 (loN (2 * W) : Nat))
      have htc : t = 0 ∨ t = 1 := by omega
      rcases htc with rfl | rfl
      · rw [Nat.mul_zero, Nat.add_zero] at hnew
        have HN := Lib.hid hnew
        have Q1 := Lib.hid q1
        have Q0 := Lib.hid q0
        clear hnew hlt q0 q1 z0 z1
        go_wp2_with fail
        go_roundw
        case rel =>
          refine ⟨k, by omega, rfl, Q0.out, ?_, hb3⟩
          rw [HN.out]; exact Q1.out
        case measure => simp [intOf]
      · rw [Nat.mul_one] at hnew
        obtain ⟨g1, g2, g3⟩ := wide_add (2 * W) a ha
        have e2 : IntKind.u64.wrap ((loN (2 * W) : Nat) + (a : Int)) = ((loN (2 * W + a) : Nat) : Int) := wrap_u _ _ (by rw [← g1]; omega)
        have hh1 : hiN (2 * W) + 1 < 18446744073709551616 ∨ ¬ loN (2 * W + a) < a := by
          by_cases hc : loN (2 * W + a) < a
          · left; rw [g2 hc]; exact hi_lt _ (by omega)
          · right; exact hc
        clear g1
        rw [← hnew] at e2 g2 g3 hh1
        by_cases hc : loN (a * (b / 2 ^ k)) < a
        · have e4 : IntKind.u64.wrap ((hiN (2 * W) : Nat) + 1) = ((hiN (a * (b / 2 ^ k)) : Nat) : Int) := wrap_u _ _ (by rw [← g2 hc]; omega)
          have hcI : ((loN (a * (b / 2 ^ k)) : Nat) : Int) < (a : Int) := by omega
          have t1 := Lib.hid ((q1.set 0 (.int .u64 (hiN (a * (b / 2 ^ k)) : Nat))).set 1 (.int .u64 (loN (a * (b / 2 ^ k)) : Nat)))
          have t0 := Lib.hid ((q0.far (p := ⟨w.heap.size + 1, 0, none⟩) (by simp) (.int .u64 (hiN (a * (b / 2 ^ k)) : Nat))).far (p := ⟨w.heap.size + 1, 1, none⟩) (by simp) (.int .u64 (loN (a * (b / 2 ^ k)) : Nat)))
          have tb := Lib.hid ((hb3.setCell (p := ⟨w.heap.size + 1, 0, none⟩) (by simp) (.int .u64 (hiN (a * (b / 2 ^ k)) : Nat))).setCell (p := ⟨w.heap.size + 1, 1, none⟩) (by simp) (.int .u64 (loN (a * (b / 2 ^ k)) : Nat)))
          clear hnew hlt z0 z1 g2 g3 hh1 q0 q1 hb3 hc
          go_wp2_with fail
          go_roundw
          case rel => exact ⟨k, by omega, rfl, t0.out, t1.out, tb.out⟩
          case measure => simp [intOf]
        · have hcI : ¬ ((loN (a * (b / 2 ^ k)) : Nat) : Int) < (a : Int) := by omega
          have e5 := Lib.hid (g3 hc)
          have t1 := Lib.hid (q1.set 1 (.int .u64 (loN (a * (b / 2 ^ k)) : Nat)))
          have t0 := Lib.hid (q0.far (p := ⟨w.heap.size + 1, 1, none⟩) (by simp) (.int .u64 (loN (a * (b / 2 ^ k)) : Nat)))
          have tb := Lib.hid (hb3.setCell (p := ⟨w.heap.size + 1, 1, none⟩) (by simp) (.int .u64 (loN (a * (b / 2 ^ k)) : Nat)))
          clear hnew hlt z0 z1 g2 g3 hh1 q0 q1 hb3 hc
          go_wp2_with fail
          go_roundw
          case rel =>
            refine ⟨k, by omega, rfl, t0.out, ?_, tb.out⟩
            rw [← e5.out]; exact t1.out
          case measure => simp [intOf]
end Go.Proofs.YtghcbkkabhlchaaDoor.FixpR
