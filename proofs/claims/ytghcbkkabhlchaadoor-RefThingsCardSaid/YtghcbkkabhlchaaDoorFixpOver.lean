/- The document's own answers of layer 1: long division bit by bit. -/
import Derived.Test.YtghcbkkabhlchaaDoorFixpRef
namespace Go.Proofs.YtghcbkkabhlchaaDoor.FixpR
open Go.RowKit Go.Proofs.YtghcbkkabhlchaaDoor.Bas Go.Proofs.YtghcbkkabhlchaaDoor.FixpM Go.Proofs.YtghcbkkabhlchaaDoor.FixpW

theorem wide_bit_hi (W k : Nat) (hk : 64 ≤ k) (hk2 : k < 128) : hiN W / 2 ^ (k % 64) = W / 2 ^ k := by
  unfold hiN
  obtain ⟨m, rfl⟩ : ∃ m, k = 64 + m := ⟨k - 64, by omega⟩
  have : (64 + m) % 64 = m := by omega
  rw [this, Nat.pow_add, ← Nat.div_div_eq_div_mul]
theorem wide_bit_lo (W k : Nat) (hk : k < 64) : loN W / 2 ^ (k % 64) % 2 = W / 2 ^ k % 2 := by
  have e : k % 64 = k := Nat.mod_eq_of_lt hk
  rw [e]
  unfold loN
  have h := Nat.div_add_mod W 18446744073709551616
  have h2 : (18446744073709551616 : Nat) = 2 ^ k * (2 * 2 ^ (63 - k)) := by
    rw [← Nat.pow_succ', ← Nat.pow_add]
    have : k + (63 - k).succ = 64 := by omega
    rw [this]
  obtain ⟨L, hL⟩ : ∃ L, L = W % 18446744073709551616 := ⟨_, rfl⟩
  rw [← hL] at h ⊢
  obtain ⟨H, hH⟩ : ∃ H, H = W / 18446744073709551616 := ⟨_, rfl⟩
  rw [← hH] at h
  rw [← h, h2]
  have : 2 ^ k * (2 * 2 ^ (63 - k)) * H + L = L + 2 ^ k * (2 * (2 ^ (63 - k) * H)) := by
    simp only [Nat.mul_assoc]; omega
  rw [this, Nat.add_mul_div_left _ _ (Nat.two_pow_pos k)]
  omega
theorem div_up (W c k : Nat) (hc : 0 < c) :
    let r := W / 2 ^ (k + 1) % c
    let t := W / 2 ^ k % 2
    (¬ 2 * r + t < c → W / 2 ^ k % c = 2 * r + t - c ∧ W / 2 ^ k / c = 2 * (W / 2 ^ (k + 1) / c) + 1) ∧
    (2 * r + t < c → W / 2 ^ k % c = 2 * r + t ∧ W / 2 ^ k / c = 2 * (W / 2 ^ (k + 1) / c)) := by
  intro r t
  have h1 := bits_up W k
  have h2 := Nat.div_add_mod (W / 2 ^ (k + 1)) c
  have hr : r < c := Nat.mod_lt _ hc
  have ht : t < 2 := Nat.mod_lt _ (by omega)
  obtain ⟨q, hq⟩ : ∃ q, q = W / 2 ^ (k + 1) / c := ⟨_, rfl⟩
  have e : W / 2 ^ k = 2 * r + t + c * (2 * q) := by
    show W / 2 ^ k = 2 * (W / 2 ^ (k + 1) % c) + W / 2 ^ k % 2 + c * (2 * q)
    rw [← hq] at h2
    have : c * (2 * q) = 2 * (c * q) := Nat.mul_left_comm _ _ _
    omega
  rw [← hq]
  constructor
  · intro h
    have e2 : 2 * r + t + c * (2 * q) = (2 * r + t - c) + c * (2 * q + 1) := by rw [Nat.mul_add]; omega
    rw [e, e2, Nat.add_mul_div_left _ _ hc, Nat.add_mul_mod_self_left, Nat.mod_eq_of_lt (by omega), Nat.div_eq_of_lt (by omega)]
    exact ⟨rfl, by omega⟩
  · intro h
    rw [e, Nat.add_mul_div_left _ _ hc, Nat.add_mul_mod_self_left, Nat.mod_eq_of_lt h, Nat.div_eq_of_lt h]
    exact ⟨rfl, by omega⟩

theorem mask63 (k : Nat) (hk : k < 128) : bits .and .i64 (k : Int) 63 = ((k % 64 : Nat) : Int) := by
  have h : ∀ k : Fin 128, bits .and .i64 ((k.1 : Nat) : Int) 63 = ((k.1 % 64 : Nat) : Int) := by decide +kernel
  exact h ⟨k, hk⟩

set_option maxHeartbeats 4000000 in
theorem over_calls (W c : Nat) (w : World) (hW : W < 340282366920938463463374607431768211456) (hc0 : 0 < c) (hc : c < 9223372036854775808) :
    Calls Tryd.prog 31 #[.agg #[.int .u64 (hiN W : Nat), .int .u64 (loN W : Nat)], .int .u64 c] w fun e w' =>
      e = .returned (.tuple #[.agg #[.int .u64 (hiN (W / c) : Nat), .int .u64 (loN (W / c) : Nat)], .int .u64 (W % c : Nat)]) ∧ Below w.heap.size w w' := by
  obtain ⟨h, hh⟩ : ∃ h, h = hiN W := ⟨_, rfl⟩
  obtain ⟨l, hl⟩ : ∃ l, l = loN W := ⟨_, rfl⟩
  have hlt : l < 18446744073709551616 := by rw [hl]; exact lo_lt W
  have hht : h < 18446744073709551616 := by rw [hh]; exact hi_lt W hW
  have hbh := fun k => wide_bit_hi W k
  have hbl := fun k => wide_bit_lo W k
  rw [← hh] at hbh ⊢
  rw [← hl] at hbl ⊢
  have HBH := Lib.hid hbh
  have HBL := Lib.hid hbl
  clear hbh hbl hh hl
  go_enter Tryd.func31, Tryd.ntmps31
  go_wp2_with fail
  obtain ⟨w0, hw0⟩ : ∃ w0, w0 = ((w.alloc (.cells #[.int .u64 h, .int .u64 l] 52)).alloc (.cells #[.int .u64 0, .int .u64 0] 52)).alloc (.cells #[.int .u64 0, .int .u64 0] 52) := ⟨_, rfl⟩
  have x0 : Box w0 w.heap.size 52 #[.int .u64 h, .int .u64 l] := by rw [hw0]; exact ((Box.new _ _ _).alloc _).alloc _
  have x1 : Box w0 (w.heap.size + 1) 52 #[.int .u64 0, .int .u64 0] := by
    rw [hw0]
    have := (Box.new (w.alloc (.cells #[.int .u64 h, .int .u64 l] 52)) 52 #[.int .u64 0, .int .u64 0]).alloc (.cells #[.int .u64 0, .int .u64 0] 52)
    simpa using this
  have x2 : Box w0 (w.heap.size + 1 + 1) 52 #[.int .u64 0, .int .u64 0] := by
    rw [hw0]
    have := Box.new ((w.alloc (.cells #[.int .u64 h, .int .u64 l] 52)).alloc (.cells #[.int .u64 0, .int .u64 0] 52)) 52 #[.int .u64 0, .int .u64 0]
    simpa using this
  have hB0 : Below w.heap.size w w0 := by rw [hw0]; exact (((Below.refl _ _).alloc (Nat.le_refl _) _).alloc (by simp) _).alloc (by simp; omega) _
  rw [← hw0]
  clear hw0
  go_loopw [7, 8] (fun r i wr => ∃ j : Nat, j ≤ 128 ∧ r = .int .u64 ((W / 2 ^ j % c : Nat) : Int) ∧ i = .int .i64 ((j : Int) - 1) ∧
      Box wr w.heap.size 52 #[.int .u64 h, .int .u64 l] ∧ Box wr (w.heap.size + 1) 52 #[.int .u64 0, .int .u64 0] ∧
      Box wr (w.heap.size + 1 + 1) 52 #[.int .u64 (hiN (W / 2 ^ j / c) : Nat), .int .u64 (loN (W / 2 ^ j / c) : Nat)] ∧ Below w.heap.size w wr) (fun _ i _ => (intOf i + 1).toNat)
  case atStart =>
    refine ⟨128, by omega, ?_, rfl, x0, x1, ?_, hB0⟩
    · rw [Nat.div_eq_of_lt (show W < 2 ^ 128 from hW), Nat.zero_mod]
      rfl
    · rw [Nat.div_eq_of_lt (show W < 2 ^ 128 from hW), Nat.zero_div]
      exact x2
  case round =>
    clear x0 x1 x2 hB0
    obtain ⟨j, hj, rfl, rfl, y0, y1, y2, hbr⟩ := hrel
    cases j with
    | zero =>
      have hz : ((0 : Nat) : Int) - 1 = -1 := by omega
      rw [hz]
      simp only [Nat.pow_zero, Nat.div_one] at y2 ⊢
      obtain ⟨H, hH⟩ : ∃ H, H = hiN (W / c) := ⟨_, rfl⟩
      obtain ⟨L, hL⟩ : ∃ L, L = loN (W / c) := ⟨_, rfl⟩
      obtain ⟨R, hR⟩ : ∃ R, R = W % c := ⟨_, rfl⟩
      rw [← hH, ← hL] at y2
      rw [← hR]
      have c0 := y2.cell 0
      have c1 := y2.cell 1
      have d0 := y1.cell 0
      have d1 := y1.cell 1
      have f1 := y1.frozen
      have hbe := (hbr.setCell (p := ⟨w.heap.size + 1, 0, none⟩) (by simp) (.int .u64 (H : Nat))).setCell (p := ⟨w.heap.size + 1, 1, none⟩) (by simp) (.int .u64 (L : Nat))
      have r := (y1.set 0 (.int .u64 (H : Nat))).set 1 (.int .u64 (L : Nat))
      have r0 := Lib.hid (r.cell 0)
      have r1 := Lib.hid (r.cell 1)
      have HH := Lib.hid hH
      have HL := Lib.hid hL
      have HR := Lib.hid hR
      clear y0 y1 y2 r hH hL hR
      go_wp2_with fail
      have r0' := r0.out
      have r1' := r1.out
      refine bodyPost_ret (v := .tuple #[.agg #[.int .u64 (H : Int), .int .u64 (L : Int)], .int .u64 (R : Int)]) (by simp [results, Tryd.results31, go_sem, r0', r1']) rfl ⟨by rw [HH.out, HL.out, HR.out], hbe⟩
    | succ k =>
      have hk : (((k + 1 : Nat) : Int) - 1) = (k : Int) := by omega
      rw [hk]
      have hm := mask63 k (by omega)
      have hup := div_up W c k hc0
      simp only [] at hup
      obtain ⟨r, hr⟩ : ∃ r, r = W / 2 ^ (k + 1) % c := ⟨_, rfl⟩
      have hrc : r < c := by rw [hr]; exact Nat.mod_lt _ hc0
      obtain ⟨t, ht⟩ : ∃ t, t = W / 2 ^ k % 2 := ⟨_, rfl⟩
      have ht2 : t < 2 := by omega
      obtain ⟨Q, hQ⟩ : ∃ Q, Q = W / 2 ^ (k + 1) / c := ⟨_, rfl⟩
      have hQl : 2 * Q + 1 < 340282366920938463463374607431768211456 := by
        have h1 : Q ≤ W / 2 ^ (k + 1) := by rw [hQ]; exact Nat.div_le_self _ _
        have h2 : W / 2 ^ (k + 1) ≤ W / 2 := by
          rw [Nat.pow_succ', ← Nat.div_div_eq_div_mul]
          exact Nat.div_le_self _ _
        omega
      rw [← hr, ← ht, ← hQ] at hup
      rw [← hr]
      rw [← hQ] at y2
      obtain ⟨m, hm2⟩ : ∃ m, m = k % 64 := ⟨_, rfl⟩
      have hm3 : m < 64 := by omega
      have B1 := bit_at l m hlt
      have B2 := bit_at h m hht
      have hsel : (63 < k → h / 2 ^ m % 2 = t) ∧ (¬ 63 < k → l / 2 ^ m % 2 = t) := by
        refine ⟨fun hk6 => ?_, fun hk6 => ?_⟩
        · rw [hm2, HBH.out k (by omega) (by omega), ht]
        · rw [hm2, HBL.out k (by omega), ht]
      rw [← hm2] at hm
      obtain ⟨r2, hr2⟩ : ∃ r2, r2 = 2 * r := ⟨_, rfl⟩
      have E1 : IntKind.u64.wrap ((r : Int) * 2) = (r2 : Int) := wrap_u _ _ (by omega)
      have E2 := or_even r2 t (by omega) ht2 (by omega)
      obtain ⟨x, hx⟩ : ∃ x, x = r2 + t := ⟨_, rfl⟩
      rw [← hr2] at hup
      rw [← hx] at hup E2
      obtain ⟨b1, hb1⟩ : ∃ b1, b1 = l / 2 ^ m % 2 := ⟨_, rfl⟩
      obtain ⟨b2, hb2⟩ : ∃ b2, b2 = h / 2 ^ m % 2 := ⟨_, rfl⟩
      rw [← hb1] at B1 hsel
      rw [← hb2] at B2 hsel
      have hsel' := Lib.hid hsel
      have c0 := y2.cell 0
      have c1 := y2.cell 1
      have d0 := y0.cell 0
      have d1 := y0.cell 1
      have y2f := y2.frozen
      have hx63 : x < 18446744073709551616 := by omega
      clear hsel hr ht hm2 hb1 hb2 hr2 hlt hht ht2 hrc hQ
      have step : ∀ (s y : Nat), s < 2 → W / 2 ^ k % c = y → W / 2 ^ k / c = 2 * Q + s → ∀ W', Calls Tryd.prog 43 #[.agg #[.int .u64 (hiN Q : Nat), .int .u64 (loN Q : Nat)], .int .u64 s] W' fun e w' =>
          e = .returned (.agg #[.int .u64 (hiN (W / 2 ^ k / c) : Nat), .int .u64 (loN (W / 2 ^ k / c) : Nat)]) ∧ Below W'.heap.size W' w' := by
        intro s y hs _ h2 W'
        have T := twice_calls (hiN Q) (loN Q) s W' (lo_lt Q) hs
        have hw2 := wide_twice Q s (by omega) hs
        rw [hw2.1, hw2.2, ← h2] at T
        exact T
      by_cases hxc : x < c
      · have hxcI : ¬ (c : Int) ≤ (x : Int) := by omega
        have e1 := (hup.2 hxc).1
        have ST := Lib.hid (step 0 x (by omega) e1 (hup.2 hxc).2)
        have EE := Lib.hid e1
        clear hup e1 step hxc hx
        by_cases hk6 : 63 < k
        · have hkI : (63 : Int) < (k : Int) := by omega
          have hbt := hsel'.out.1 hk6
          subst hbt
          clear hsel'
          go_wp2_with fail
          refine (ST.out _).mono ?_
          rintro e w2 ⟨rfl, hb2⟩
          have z0 := y0.keep hb2
          have z1 := y1.keep hb2
          have z2 := y2.keep hb2
          have hbr2 := hbr.trans (hb2.mono hbr.size)
          clear y0 y1 y2 c0 c1 d0 d1 hb2 hbr y2f
          obtain ⟨A, hA⟩ : ∃ A, A = hiN (W / 2 ^ k / c) := ⟨_, rfl⟩
          obtain ⟨B, hB⟩ : ∃ B, B = loN (W / 2 ^ k / c) := ⟨_, rfl⟩
          rw [← hA, ← hB]
          have e0 := z2.cell 0
          have e1 := z2.cell 1
          have f2 := z2.frozen
          have q2 := Lib.hid ((z2.set 0 (.int .u64 (A : Nat))).set 1 (.int .u64 (B : Nat)))
          have q0 := Lib.hid ((z0.far (p := ⟨w.heap.size + 1 + 1, 0, none⟩) (by simp; omega) (.int .u64 (A : Nat))).far (p := ⟨w.heap.size + 1 + 1, 1, none⟩) (by simp; omega) (.int .u64 (B : Nat)))
          have q1 := Lib.hid ((z1.far (p := ⟨w.heap.size + 1 + 1, 0, none⟩) (by simp) (.int .u64 (A : Nat))).far (p := ⟨w.heap.size + 1 + 1, 1, none⟩) (by simp) (.int .u64 (B : Nat)))
          have hb3 := Lib.hid ((hbr2.setCell (p := ⟨w.heap.size + 1 + 1, 0, none⟩) (by simp; omega) (.int .u64 (A : Nat))).setCell (p := ⟨w.heap.size + 1 + 1, 1, none⟩) (by simp; omega) (.int .u64 (B : Nat)))
          have HA := Lib.hid hA
          have HB := Lib.hid hB
          clear z0 z1 z2 hbr2 hA hB
          go_wp2_with fail
          go_roundw
          case rel =>
            refine ⟨k, by omega, by rw [EE.out], rfl, q0.out, q1.out, ?_, hb3.out⟩
            rw [← HA.out, ← HB.out]; exact q2.out
          case measure => simp [intOf]
        · have hkI : ¬ (63 : Int) < (k : Int) := by omega
          have hbt := hsel'.out.2 hk6
          subst hbt
          clear hsel'
          go_wp2_with fail
          refine (ST.out _).mono ?_
          rintro e w2 ⟨rfl, hb2⟩
          have z0 := y0.keep hb2
          have z1 := y1.keep hb2
          have z2 := y2.keep hb2
          have hbr2 := hbr.trans (hb2.mono hbr.size)
          clear y0 y1 y2 c0 c1 d0 d1 hb2 hbr y2f
          obtain ⟨A, hA⟩ : ∃ A, A = hiN (W / 2 ^ k / c) := ⟨_, rfl⟩
          obtain ⟨B, hB⟩ : ∃ B, B = loN (W / 2 ^ k / c) := ⟨_, rfl⟩
          rw [← hA, ← hB]
          have e0 := z2.cell 0
          have e1 := z2.cell 1
          have f2 := z2.frozen
          have q2 := Lib.hid ((z2.set 0 (.int .u64 (A : Nat))).set 1 (.int .u64 (B : Nat)))
          have q0 := Lib.hid ((z0.far (p := ⟨w.heap.size + 1 + 1, 0, none⟩) (by simp; omega) (.int .u64 (A : Nat))).far (p := ⟨w.heap.size + 1 + 1, 1, none⟩) (by simp; omega) (.int .u64 (B : Nat)))
          have q1 := Lib.hid ((z1.far (p := ⟨w.heap.size + 1 + 1, 0, none⟩) (by simp) (.int .u64 (A : Nat))).far (p := ⟨w.heap.size + 1 + 1, 1, none⟩) (by simp) (.int .u64 (B : Nat)))
          have hb3 := Lib.hid ((hbr2.setCell (p := ⟨w.heap.size + 1 + 1, 0, none⟩) (by simp; omega) (.int .u64 (A : Nat))).setCell (p := ⟨w.heap.size + 1 + 1, 1, none⟩) (by simp; omega) (.int .u64 (B : Nat)))
          have HA := Lib.hid hA
          have HB := Lib.hid hB
          clear z0 z1 z2 hbr2 hA hB
          go_wp2_with fail
          go_roundw
          case rel =>
            refine ⟨k, by omega, by rw [EE.out], rfl, q0.out, q1.out, ?_, hb3.out⟩
            rw [← HA.out, ← HB.out]; exact q2.out
          case measure => simp [intOf]
      · have hxcI : (c : Int) ≤ (x : Int) := by omega
        have e1 := (hup.1 hxc).1
        obtain ⟨y, hy⟩ : ∃ y, y = x - c := ⟨_, rfl⟩
        have hyI : IntKind.u64.wrap ((x : Int) - (c : Int)) = (y : Int) := wrap_u _ _ (by omega)
        rw [← hy] at e1
        have ST := Lib.hid (step 1 y (by omega) e1 (hup.1 hxc).2)
        have EE := Lib.hid e1
        clear hup e1 step hxc hx hy
        by_cases hk6 : 63 < k
        · have hkI : (63 : Int) < (k : Int) := by omega
          have hbt := hsel'.out.1 hk6
          subst hbt
          clear hsel'
          go_wp2_with fail
          refine (ST.out _).mono ?_
          rintro e w2 ⟨rfl, hb2⟩
          have z0 := y0.keep hb2
          have z1 := y1.keep hb2
          have z2 := y2.keep hb2
          have hbr2 := hbr.trans (hb2.mono hbr.size)
          clear y0 y1 y2 c0 c1 d0 d1 hb2 hbr y2f
          obtain ⟨A, hA⟩ : ∃ A, A = hiN (W / 2 ^ k / c) := ⟨_, rfl⟩
          obtain ⟨B, hB⟩ : ∃ B, B = loN (W / 2 ^ k / c) := ⟨_, rfl⟩
          rw [← hA, ← hB]
          have e0 := z2.cell 0
          have e1 := z2.cell 1
          have f2 := z2.frozen
          have q2 := Lib.hid ((z2.set 0 (.int .u64 (A : Nat))).set 1 (.int .u64 (B : Nat)))
          have q0 := Lib.hid ((z0.far (p := ⟨w.heap.size + 1 + 1, 0, none⟩) (by simp; omega) (.int .u64 (A : Nat))).far (p := ⟨w.heap.size + 1 + 1, 1, none⟩) (by simp; omega) (.int .u64 (B : Nat)))
          have q1 := Lib.hid ((z1.far (p := ⟨w.heap.size + 1 + 1, 0, none⟩) (by simp) (.int .u64 (A : Nat))).far (p := ⟨w.heap.size + 1 + 1, 1, none⟩) (by simp) (.int .u64 (B : Nat)))
          have hb3 := Lib.hid ((hbr2.setCell (p := ⟨w.heap.size + 1 + 1, 0, none⟩) (by simp; omega) (.int .u64 (A : Nat))).setCell (p := ⟨w.heap.size + 1 + 1, 1, none⟩) (by simp; omega) (.int .u64 (B : Nat)))
          have HA := Lib.hid hA
          have HB := Lib.hid hB
          clear z0 z1 z2 hbr2 hA hB
          go_wp2_with fail
          go_roundw
          case rel =>
            refine ⟨k, by omega, by rw [EE.out], rfl, q0.out, q1.out, ?_, hb3.out⟩
            rw [← HA.out, ← HB.out]; exact q2.out
          case measure => simp [intOf]
        · have hkI : ¬ (63 : Int) < (k : Int) := by omega
          have hbt := hsel'.out.2 hk6
          subst hbt
          clear hsel'
          go_wp2_with fail
          refine (ST.out _).mono ?_
          rintro e w2 ⟨rfl, hb2⟩
          have z0 := y0.keep hb2
          have z1 := y1.keep hb2
          have z2 := y2.keep hb2
          have hbr2 := hbr.trans (hb2.mono hbr.size)
          clear y0 y1 y2 c0 c1 d0 d1 hb2 hbr y2f
          obtain ⟨A, hA⟩ : ∃ A, A = hiN (W / 2 ^ k / c) := ⟨_, rfl⟩
          obtain ⟨B, hB⟩ : ∃ B, B = loN (W / 2 ^ k / c) := ⟨_, rfl⟩
          rw [← hA, ← hB]
          have e0 := z2.cell 0
          have e1 := z2.cell 1
          have f2 := z2.frozen
          have q2 := Lib.hid ((z2.set 0 (.int .u64 (A : Nat))).set 1 (.int .u64 (B : Nat)))
          have q0 := Lib.hid ((z0.far (p := ⟨w.heap.size + 1 + 1, 0, none⟩) (by simp; omega) (.int .u64 (A : Nat))).far (p := ⟨w.heap.size + 1 + 1, 1, none⟩) (by simp; omega) (.int .u64 (B : Nat)))
          have q1 := Lib.hid ((z1.far (p := ⟨w.heap.size + 1 + 1, 0, none⟩) (by simp) (.int .u64 (A : Nat))).far (p := ⟨w.heap.size + 1 + 1, 1, none⟩) (by simp) (.int .u64 (B : Nat)))
          have hb3 := Lib.hid ((hbr2.setCell (p := ⟨w.heap.size + 1 + 1, 0, none⟩) (by simp; omega) (.int .u64 (A : Nat))).setCell (p := ⟨w.heap.size + 1 + 1, 1, none⟩) (by simp; omega) (.int .u64 (B : Nat)))
          have HA := Lib.hid hA
          have HB := Lib.hid hB
          clear z0 z1 z2 hbr2 hA hB
          go_wp2_with fail
          go_roundw
          case rel =>
            refine ⟨k, by omega, by rw [EE.out], rfl, q0.out, q1.out, ?_, hb3.out⟩
            rw [← HA.out, ← HB.out]; exact q2.out
          case measure => simp [intOf]

theorem of_calls (W : Nat) (neg : Bool) (w : World) (hW : W < 340282366920938463463374607431768211456) :
    Calls Tryd.prog 34 #[.agg #[.int .u64 (hiN W : Nat), .int .u64 (loN W : Nat)], .bool neg] w fun e w' =>
      e = .returned (.tuple #[.int .i64 (okv (sgn neg W)).1, .int .i64 (okv (sgn neg W)).2]) ∧ Below w.heap.size w w' := by
  rw [okv_sgn]
  obtain ⟨h, hh⟩ : ∃ h, h = hiN W := ⟨_, rfl⟩
  obtain ⟨l, hl⟩ : ∃ l, l = loN W := ⟨_, rfl⟩
  have hlt : l < 18446744073709551616 := by rw [hl]; exact lo_lt W
  have hW2 : W = 18446744073709551616 * h + l := by rw [hh, hl]; unfold hiN loN; omega
  rw [← hh, ← hl]
  clear hh hl
  have hB0 := Lib.hid ((Below.refl w.heap.size w).alloc (Nat.le_refl _) (.cells #[.int .u64 h, .int .u64 l] 52))
  by_cases h0 : 0 < h
  · have h0I : (0 : Int) < (h : Int) := by omega
    have hno : ¬ W ≤ 4611686018427387904 := by omega
    rw [if_neg hno]
    clear hW2 hno h0
    go_enter Tryd.func34, Tryd.ntmps34
    go_wp2_with fail
    go_ret2
    exact ⟨ret_pair (by simp) rfl, hB0.out⟩
  · have h00 : h = 0 := by omega
    subst h00
    by_cases hl : 4611686018427387904 < l
    · have hlI : (4611686018427387904 : Int) < (l : Int) := by omega
      have hno : ¬ W ≤ 4611686018427387904 := by omega
      rw [if_neg hno]
      clear hW2 hno h0
      go_enter Tryd.func34, Tryd.ntmps34
      go_wp2_with fail
      go_ret2
      exact ⟨ret_pair (by simp) rfl, hB0.out⟩
    · have hlI : ¬ (4611686018427387904 : Int) < (l : Int) := by omega
      have hno : W ≤ 4611686018427387904 := by omega
      have hWl : W = l := by omega
      subst hWl
      rw [if_pos hno]
      have E1 : IntKind.i64.wrap (W : Int) = (W : Int) := by rw [IntKind.wrap_i64]; omega
      have E2 : IntKind.i64.wrap (-(W : Int)) = -(W : Int) := by rw [IntKind.wrap_i64]; omega
      clear hW2 hno h0 hl
      cases neg
      · go_enter Tryd.func34, Tryd.ntmps34
        go_wp2_with fail
        go_ret2
        exact ⟨ret_pair (by simp [sgn]) rfl, hB0.out⟩
      · go_enter Tryd.func34, Tryd.ntmps34
        go_wp2_with fail
        go_ret2
        exact ⟨ret_pair (by simp [sgn]) rfl, hB0.out⟩
end Go.Proofs.YtghcbkkabhlchaaDoor.FixpR
