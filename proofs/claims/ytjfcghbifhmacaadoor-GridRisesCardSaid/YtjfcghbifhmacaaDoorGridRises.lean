/- GridRises: the plain law, the walk, and the step from the law's arguments to it. -/
import Derived.Test.YtjfcghbifhmacaaDoorGridLawBase
import Derived.Test.YtjfcghbifhmacaaDoorOptLaws2
namespace Go.Proofs.YtjfcghbifhmacaaDoor.gridRises
open Go.ChangeShapes Go.WideShapes Go.ChangeAt Go.RowKit Go.Proofs.YtjfcghbifhmacaaDoor.Bas Go.Proofs.YtjfcghbifhmacaaDoor.FixpM Go.Proofs.YtjfcghbifhmacaaDoor.FixpW Go.Proofs.YtjfcghbifhmacaaDoor.OptW Go.Proofs.YtjfcghbifhmacaaDoor.GridW

theorem errAt_mem {f : Nat → Int × Int} : ∀ n, errAt f n = 0 → ∀ i, i < n → (f i).2 = 0
  | 0, _, i, h => by omega
  | n + 1, h, i, hi => by
    simp only [errAt] at h
    by_cases h0 : errAt f n = 0
    · rw [if_pos h0] at h
      by_cases hn : i = n
      · subst hn; exact h
      · exact errAt_mem n h0 i (by omega)
    · rw [if_neg h0] at h; exact absurd h h0
theorem outs_end (f : Nat → Int × Int) (i : Nat) (h : i < 21) : (outs f 21).getD i 0 = (f i).1 := by
  simp [outs, List.getD, h]

/-- the middle scenario is how things are -/
theorem middle {k s x : Int} {c : Bool} {p v d : Int} (h : (scenF k s x c p v d 10).2 = 0) : scenF k s x c p v d 10 = nowF k s x c p v d := by
  unfold scenF at *
  unfold nowF
  by_cases hp : placed p v ((10 : Nat) : Int)
  · rw [if_pos hp]
    have hq : placeIn p v = true := by unfold placed at hp; simp [placeIn]; omega
    rw [if_pos hq]
    have e : ∀ y : Int, pt y 0 = y := by intro y; unfold pt; omega
    rw [show shiftOf 10 = 0 by decide, show volOf 10 = 0 by decide, e, e]
  · rw [if_neg hp] at h; simp at h

theorem pt_le {x a b : Int} (hx : 0 ≤ x) (h : a ≤ b) : pt x a ≤ pt x b := by
  unfold pt
  have : x * (10000 + a) ≤ x * (10000 + b) := Int.mul_le_mul_of_nonneg_left (by omega) hx
  generalize x * (10000 + a) = m at *
  generalize x * (10000 + b) = n at *
  omega
theorem shift_le (i : Nat) (h : i < 18) : shiftOf i ≤ shiftOf (i + 3) ∧ volOf (i + 3) = volOf i := by
  have : ∀ i, i < 18 → shiftOf i ≤ shiftOf (i + 3) ∧ volOf (i + 3) = volOf i := by decide
  exact this i h
def putB (k : Int) (c : Bool) : Bool := decide (k = 3) && !c
/-- a greater shift -/
theorem rise {k s x : Int} {c : Bool} {p v d : Int} {i : Nat} (hi : i < 18) (h1 : (scenF k s x c p v d i).2 = 0) (h2 : (scenF k s x c p v d (i + 3)).2 = 0) :
    (putB k c = true → (scenF k s x c p v d (i + 3)).1 ≤ (scenF k s x c p v d i).1) ∧ (putB k c = false → (scenF k s x c p v d i).1 ≤ (scenF k s x c p v d (i + 3)).1) := by
  unfold scenF at *
  by_cases hp : placed p v (i : Int)
  · have hp3 : placed p v ((i + 3 : Nat) : Int) := by unfold placed at *; omega
    rw [if_pos hp] at h1 ⊢
    rw [if_pos hp3] at h2 ⊢
    obtain ⟨hs, hv⟩ := shift_le i hi
    rw [hv] at h2 ⊢
    clear hv
    have hle : pt p (shiftOf i) ≤ pt p (shiftOf (i + 3)) := pt_le (by unfold placed at hp; omega) hs
    generalize pt p (shiftOf i) = a at *
    generalize pt p (shiftOf (i + 3)) = b at *
    generalize pt v (volOf i) = z at *
    by_cases hk : k < 1 ∨ 3 < k
    · rw [unitF_kind hk] at h1; simp at h1
    · by_cases ha : markIn a = false ∨ markIn z = false ∨ dayIn d = false
      · rw [unitF_arg hk ha] at h1; simp at h1
      · by_cases hb : markIn b = false ∨ markIn z = false ∨ dayIn d = false
        · rw [unitF_arg hk hb] at h2; simp at h2
        · simp only [not_or, Bool.not_eq_false] at ha hb
          by_cases k3 : k < 3
          · rw [unitF_price hk ha.1 ha.2.1 ha.2.2 k3, unitF_price hk hb.1 hb.2.1 hb.2.2 k3]
            have : decide (k = 3) = false := by simp; omega
            refine ⟨fun h => ?_, fun _ => hle⟩
            simp [putB, this] at h
          · by_cases hx : dayIn x = true
            · rw [unitF_value hk ha.1 ha.2.1 ha.2.2 k3 hx] at h1 ⊢
              rw [unitF_value hk hb.1 hb.2.1 hb.2.2 k3 hx] at h2 ⊢
              have hk3 : decide (k = 3) = true := by simp; omega
              have e1 : valueF c s a z (x - d) = ((valueF c s a z (x - d)).1, 0) := Prod.ext rfl h1
              have e2 : valueF c s b z (x - d) = ((valueF c s b z (x - d)).1, 0) := Prod.ext rfl h2
              cases c
              · refine ⟨fun _ => gap_rises e2 e1 (by unfold gapF; simp; omega), fun h => ?_⟩
                simp [putB, hk3] at h
              · refine ⟨fun h => ?_, fun _ => gap_rises e1 e2 (by unfold gapF; simp; omega)⟩
                simp [putB] at h
            · rw [unitF_expiry hk ha.1 ha.2.1 ha.2.2 k3 (by simpa using hx)] at h1; simp at h1
  · rw [if_neg hp] at h1; simp at h1

def LL (k s x : Int) (c : Bool) (p v d : Int) : List Int := unitsF (scenF k s x c p v d)
theorem all_rise {k s x : Int} {c : Bool} {p v d : Int} (h : errAt (scenF k s x c p v d) 21 = 0) :
    (unitsF (scenF k s x c p v d)).getD 10 0 = (nowF k s x c p v d).1 ∧ (nowF k s x c p v d).2 = 0 ∧
    ∀ i, i < 18 → (putB k c = true → (unitsF (scenF k s x c p v d)).getD (i + 3) 0 ≤ (unitsF (scenF k s x c p v d)).getD i 0) ∧ (putB k c = false → (unitsF (scenF k s x c p v d)).getD i 0 ≤ (unitsF (scenF k s x c p v d)).getD (i + 3) 0) := by
  have hm := errAt_mem 21 h
  have m10 := middle (hm 10 (by omega))
  have hu : unitsF (scenF k s x c p v d) = outs (scenF k s x c p v d) 21 := by unfold unitsF; rw [if_pos h]
  rw [hu]
  refine ⟨by rw [outs_end _ 10 (by omega), m10], by rw [← m10]; exact hm 10 (by omega), fun i hi => ?_⟩
  rw [outs_end _ i (by omega), outs_end _ (i + 3) (by omega)]
  exact rise hi (hm i (by omega)) (hm (i + 3) (by omega))

set_option maxHeartbeats 4000000 in
set_option maxRecDepth 100000 in
theorem walk (k u m s x : Int) (c : Bool) (r : Int) (n : ByteArray) (cu p v d : Int) (w : World) (ht : Tab w) :
    Calls Tryd.prog 4 #[instrV k u m s x c r, underV n cu p v, .int .i64 d] w fun e w' => e = .returned (.bool true) ∧ Below w.heap.size w w' := by
  have C1 := fun W (h : Tab W) => units_calls k u m s x c r n cu p v d W h
  have C3 := fun W => now_calls k u m s x c r n cu p v d W
  have hl : (unitsF (scenF k s x c p v d)).length = 21 := by
    unfold unitsF; split
    · exact outs_len _ _
    · rfl
  have hbad : errAt (scenF k s x c p v d) 21 ≠ 0 → unitsF (scenF k s x c p v d) = noneOut := fun h => by unfold unitsF; rw [if_neg h]
  have hall := @all_rise k s x c p v d
  unfold instrV underV at *
  generalize errAt (scenF k s x c p v d) 21 = e0 at C1 hbad hall
  generalize unitsF (scenF k s x c p v d) = L at C1 hl hbad hall
  generalize nowF k s x c p v d = q at C3 hall
  obtain ⟨q1, q2⟩ := q
  have HL := Lib.hid hl
  have D0 := Lib.hid (fun W (h : Tab W) => wakes_calls W h)
  have D1 := Lib.hid C1
  have D3 := Lib.hid C3
  have HT := Lib.hid ht
  clear C1 C3 ht
  have hB : Below w.heap.size w ((w.alloc (.cells #[.int .i64 k, .int .i64 u, .int .i64 m, .int .i64 s, .int .i64 x, .bool c, .int .i64 r] 23)).alloc (.cells #[.string n, .int .i64 cu, .int .i64 p, .int .i64 v] 25)) := ((Below.refl _ _).alloc (Nat.le_refl _) _).alloc (by simp) _
  have xi : Box ((w.alloc (.cells #[.int .i64 k, .int .i64 u, .int .i64 m, .int .i64 s, .int .i64 x, .bool c, .int .i64 r] 23)).alloc (.cells #[.string n, .int .i64 cu, .int .i64 p, .int .i64 v] 25)) w.heap.size 23 #[.int .i64 k, .int .i64 u, .int .i64 m, .int .i64 s, .int .i64 x, .bool c, .int .i64 r] := (Box.new w _ _).alloc _
  have xu : Box ((w.alloc (.cells #[.int .i64 k, .int .i64 u, .int .i64 m, .int .i64 s, .int .i64 x, .bool c, .int .i64 r] 23)).alloc (.cells #[.string n, .int .i64 cu, .int .i64 p, .int .i64 v] 25)) (w.heap.size + 1) 25 #[.string n, .int .i64 cu, .int .i64 p, .int .i64 v] := by
    have := Box.new (w.alloc (.cells #[.int .i64 k, .int .i64 u, .int .i64 m, .int .i64 s, .int .i64 x, .bool c, .int .i64 r] 23)) 25 #[.string n, .int .i64 cu, .int .i64 p, .int .i64 v]
    simpa using this
  go_enter Tryd.func4, Tryd.ntmps4
  go_upto_region 1 with fail
  generalize ((w.alloc (.cells #[.int .i64 k, .int .i64 u, .int .i64 m, .int .i64 s, .int .i64 x, .bool c, .int .i64 r] 23)).alloc (.cells #[.string n, .int .i64 cu, .int .i64 p, .int .i64 v] 25)) = w0 at hB xi xu ⊢
  by_cases he : e0 = 0
  · have hgood := hall he
    subst he
    obtain ⟨h10, hq2, hri⟩ := hgood
    simp only at h10 hq2 hri
    subst hq2 h10
    have HR := Lib.hid hri
    clear hall hbad hri hl
    by_cases hk : k = 3
    · subst hk
      cases c
      · have HP := Lib.hid (show putB 3 false = true from by simp [putB])
        go_upto_region 10 with (first
                | (go_at_call 8; refine (D0.out _ (HT.out.keep hB)).mono ?_; rintro e w1 ⟨rfl, b1⟩; clear D0; have xi1 := xi.keep b1; have xu1 := xu.keep b1; have hB1 := hB.trans (b1.mono hB.size); clear xi xu hB b1; have i0 := xi1.cell 0; have i1 := xi1.cell 1; have i2 := xi1.cell 2; have i3 := xi1.cell 3; have i4 := xi1.cell 4; have i5 := xi1.cell 5; have i6 := xi1.cell 6; have u0 := xu1.cell 0; have u1 := xu1.cell 1; have u2 := xu1.cell 2; have u3 := xu1.cell 3)
                | (go_at_call 9; refine (D1.out _ (HT.out.keep hB1)).mono ?_; rintro e w2 ⟨rfl, b2⟩; clear D1; clear i0 i1 i2 i3 i4 i5 i6 u0 u1 u2 u3; have B2 := b2.trans ((laid_below w2 L).mono b2.size); have y2 := laid_box w2 L; have xi2 := xi1.keep B2; have xu2 := xu1.keep B2; have hB2 := hB1.trans (B2.mono hB1.size); clear xi1 xu1 B2)
                | ((with_reducible refine wpList_store_box rfl 27 (.tmp 7) (.tmp 20) rfl (i64s L).toArray (Box.new w2 27 _) ?_ ?_ ?_ ?_ ?_ ?_); (· exact size21 _ (by simp [i64s, HL.out])); (· simp [i64s, HL.out]); (· exact all_one_i64 _); (· rfl); (· rfl); (change wpList _ _ _ _ _ (laidW w2 L)); have i0 := xi2.cell 0; have i1 := xi2.cell 1; have i2 := xi2.cell 2; have i3 := xi2.cell 3; have i4 := xi2.cell 4; have i5 := xi2.cell 5; have i6 := xi2.cell 6; have u0 := xu2.cell 0; have u1 := xu2.cell 1; have u2 := xu2.cell 2; have u3 := xu2.cell 3)
                | (go_at_call 11; refine (D3.out _).mono ?_; rintro e w4 ⟨rfl, b4⟩; clear D3; clear i0 i1 i2 i3 i4 i5 i6 u0 u1 u2 u3; have y24 := y2.keep b4; have xi4 := xi2.keep b4; have hB4 := hB2.trans (b4.mono hB2.size); have i0 := xi4.cell 0; have i5 := xi4.cell 5; have g10 : w4.cell? ⟨w2.heap.size, 10, none⟩ = some (.int .i64 (L.getD 10 0)) := (y24.cell 10).trans (by have := i64s_getD L 10 (by rw [HL.out]; omega); simpa using this); clear xi2 xu2 y2 hB2))
        clear g10 i0 i5
        go_wp2_with fail
        go_loopw [12] (fun i wr => ∃ j : Nat, j ≤ 18 ∧ i = .int .i64 j ∧ Box wr w2.heap.size 27 (i64s L).toArray ∧ Below w.heap.size w wr) (fun i _ => 18 - (intOf i).toNat)
        case atStart => exact ⟨0, by omega, rfl, y24, hB4⟩
        case round =>
          clear y24 hB4 xi4
          obtain ⟨j, hj, rfl, y, hb⟩ := hrel
          by_cases hlt : j < 18
          · have hr := (HR.out j hlt).1 HP.out
            have g0 : ∀ a, (wr.drewN a).cell? ⟨w2.heap.size, j, none⟩ = some (.int .i64 (L.getD j 0)) := fun a => (y.drewN a |>.cell j).trans (by have := i64s_getD L j (by rw [HL.out]; omega); simpa using this)
            have g3 : ∀ a, (wr.drewN a).cell? ⟨w2.heap.size, j + 3, none⟩ = some (.int .i64 (L.getD (j + 3) 0)) := fun a => (y.drewN a |>.cell (j + 3)).trans (by have := i64s_getD L (j + 3) (by rw [HL.out]; omega); simpa using this)
            have g0' := g0 0
            have g3' := g3 0
            generalize L.getD j 0 = a at *
            generalize L.getD (j + 3) 0 = b at *
            have hd : decide (a < b) = false := by simp; omega
            go_upto_region 13 with fail
            go_quiet (fail)
            go_wp2_with fail
            go_roundw
            case rel => exact ⟨j + 1, by omega, by go_num, y.drewN nq, below_drewN hb nq⟩
            case measure => simp [intOf]; omega
          · obtain rfl : j = 18 := by omega
            go_wp2_with fail
            go_ret
            exact ⟨rfl, hb⟩
      · have HP := Lib.hid (show putB 3 true = false from by simp [putB])
        go_upto_region 10 with (first
                | (go_at_call 8; refine (D0.out _ (HT.out.keep hB)).mono ?_; rintro e w1 ⟨rfl, b1⟩; clear D0; have xi1 := xi.keep b1; have xu1 := xu.keep b1; have hB1 := hB.trans (b1.mono hB.size); clear xi xu hB b1; have i0 := xi1.cell 0; have i1 := xi1.cell 1; have i2 := xi1.cell 2; have i3 := xi1.cell 3; have i4 := xi1.cell 4; have i5 := xi1.cell 5; have i6 := xi1.cell 6; have u0 := xu1.cell 0; have u1 := xu1.cell 1; have u2 := xu1.cell 2; have u3 := xu1.cell 3)
                | (go_at_call 9; refine (D1.out _ (HT.out.keep hB1)).mono ?_; rintro e w2 ⟨rfl, b2⟩; clear D1; clear i0 i1 i2 i3 i4 i5 i6 u0 u1 u2 u3; have B2 := b2.trans ((laid_below w2 L).mono b2.size); have y2 := laid_box w2 L; have xi2 := xi1.keep B2; have xu2 := xu1.keep B2; have hB2 := hB1.trans (B2.mono hB1.size); clear xi1 xu1 B2)
                | ((with_reducible refine wpList_store_box rfl 27 (.tmp 7) (.tmp 20) rfl (i64s L).toArray (Box.new w2 27 _) ?_ ?_ ?_ ?_ ?_ ?_); (· exact size21 _ (by simp [i64s, HL.out])); (· simp [i64s, HL.out]); (· exact all_one_i64 _); (· rfl); (· rfl); (change wpList _ _ _ _ _ (laidW w2 L)); have i0 := xi2.cell 0; have i1 := xi2.cell 1; have i2 := xi2.cell 2; have i3 := xi2.cell 3; have i4 := xi2.cell 4; have i5 := xi2.cell 5; have i6 := xi2.cell 6; have u0 := xu2.cell 0; have u1 := xu2.cell 1; have u2 := xu2.cell 2; have u3 := xu2.cell 3)
                | (go_at_call 11; refine (D3.out _).mono ?_; rintro e w4 ⟨rfl, b4⟩; clear D3; clear i0 i1 i2 i3 i4 i5 i6 u0 u1 u2 u3; have y24 := y2.keep b4; have xi4 := xi2.keep b4; have hB4 := hB2.trans (b4.mono hB2.size); have i0 := xi4.cell 0; have i5 := xi4.cell 5; have g10 : w4.cell? ⟨w2.heap.size, 10, none⟩ = some (.int .i64 (L.getD 10 0)) := (y24.cell 10).trans (by have := i64s_getD L 10 (by rw [HL.out]; omega); simpa using this); clear xi2 xu2 y2 hB2))
        clear g10 i0 i5
        go_wp2_with fail
        go_loopw [12] (fun i wr => ∃ j : Nat, j ≤ 18 ∧ i = .int .i64 j ∧ Box wr w2.heap.size 27 (i64s L).toArray ∧ Below w.heap.size w wr) (fun i _ => 18 - (intOf i).toNat)
        case atStart => exact ⟨0, by omega, rfl, y24, hB4⟩
        case round =>
          clear y24 hB4 xi4
          obtain ⟨j, hj, rfl, y, hb⟩ := hrel
          by_cases hlt : j < 18
          · have hr := (HR.out j hlt).2 HP.out
            have g0 : ∀ a, (wr.drewN a).cell? ⟨w2.heap.size, j, none⟩ = some (.int .i64 (L.getD j 0)) := fun a => (y.drewN a |>.cell j).trans (by have := i64s_getD L j (by rw [HL.out]; omega); simpa using this)
            have g3 : ∀ a, (wr.drewN a).cell? ⟨w2.heap.size, j + 3, none⟩ = some (.int .i64 (L.getD (j + 3) 0)) := fun a => (y.drewN a |>.cell (j + 3)).trans (by have := i64s_getD L (j + 3) (by rw [HL.out]; omega); simpa using this)
            have g0' := g0 0
            have g3' := g3 0
            generalize L.getD j 0 = a at *
            generalize L.getD (j + 3) 0 = b at *
            have hd : decide (b < a) = false := by simp; omega
            go_upto_region 13 with fail
            go_quiet (fail)
            go_wp2_with fail
            go_roundw
            case rel => exact ⟨j + 1, by omega, by go_num, y.drewN nq, below_drewN hb nq⟩
            case measure => simp [intOf]; omega
          · obtain rfl : j = 18 := by omega
            go_wp2_with fail
            go_ret
            exact ⟨rfl, hb⟩
    · have hkb : (k == 3) = false := by simpa using hk
      have HP := Lib.hid (show putB k c = false from by simp [putB, hk])
      clear hk
      go_upto_region 10 with (first
              | (go_at_call 8; refine (D0.out _ (HT.out.keep hB)).mono ?_; rintro e w1 ⟨rfl, b1⟩; clear D0; have xi1 := xi.keep b1; have xu1 := xu.keep b1; have hB1 := hB.trans (b1.mono hB.size); clear xi xu hB b1; have i0 := xi1.cell 0; have i1 := xi1.cell 1; have i2 := xi1.cell 2; have i3 := xi1.cell 3; have i4 := xi1.cell 4; have i5 := xi1.cell 5; have i6 := xi1.cell 6; have u0 := xu1.cell 0; have u1 := xu1.cell 1; have u2 := xu1.cell 2; have u3 := xu1.cell 3)
              | (go_at_call 9; refine (D1.out _ (HT.out.keep hB1)).mono ?_; rintro e w2 ⟨rfl, b2⟩; clear D1; clear i0 i1 i2 i3 i4 i5 i6 u0 u1 u2 u3; have B2 := b2.trans ((laid_below w2 L).mono b2.size); have y2 := laid_box w2 L; have xi2 := xi1.keep B2; have xu2 := xu1.keep B2; have hB2 := hB1.trans (B2.mono hB1.size); clear xi1 xu1 B2)
              | ((with_reducible refine wpList_store_box rfl 27 (.tmp 7) (.tmp 20) rfl (i64s L).toArray (Box.new w2 27 _) ?_ ?_ ?_ ?_ ?_ ?_); (· exact size21 _ (by simp [i64s, HL.out])); (· simp [i64s, HL.out]); (· exact all_one_i64 _); (· rfl); (· rfl); (change wpList _ _ _ _ _ (laidW w2 L)); have i0 := xi2.cell 0; have i1 := xi2.cell 1; have i2 := xi2.cell 2; have i3 := xi2.cell 3; have i4 := xi2.cell 4; have i5 := xi2.cell 5; have i6 := xi2.cell 6; have u0 := xu2.cell 0; have u1 := xu2.cell 1; have u2 := xu2.cell 2; have u3 := xu2.cell 3)
              | (go_at_call 11; refine (D3.out _).mono ?_; rintro e w4 ⟨rfl, b4⟩; clear D3; clear i0 i1 i2 i3 i4 i5 i6 u0 u1 u2 u3; have y24 := y2.keep b4; have xi4 := xi2.keep b4; have hB4 := hB2.trans (b4.mono hB2.size); have i0 := xi4.cell 0; have i5 := xi4.cell 5; have g10 : w4.cell? ⟨w2.heap.size, 10, none⟩ = some (.int .i64 (L.getD 10 0)) := (y24.cell 10).trans (by have := i64s_getD L 10 (by rw [HL.out]; omega); simpa using this); clear xi2 xu2 y2 hB2))
      clear g10 i0 i5
      go_wp2_with fail
      go_loopw [12] (fun i wr => ∃ j : Nat, j ≤ 18 ∧ i = .int .i64 j ∧ Box wr w2.heap.size 27 (i64s L).toArray ∧ Below w.heap.size w wr) (fun i _ => 18 - (intOf i).toNat)
      case atStart => exact ⟨0, by omega, rfl, y24, hB4⟩
      case round =>
        clear y24 hB4 xi4
        obtain ⟨j, hj, rfl, y, hb⟩ := hrel
        by_cases hlt : j < 18
        · have hr := (HR.out j hlt).2 HP.out
          have g0 : ∀ a, (wr.drewN a).cell? ⟨w2.heap.size, j, none⟩ = some (.int .i64 (L.getD j 0)) := fun a => (y.drewN a |>.cell j).trans (by have := i64s_getD L j (by rw [HL.out]; omega); simpa using this)
          have g3 : ∀ a, (wr.drewN a).cell? ⟨w2.heap.size, j + 3, none⟩ = some (.int .i64 (L.getD (j + 3) 0)) := fun a => (y.drewN a |>.cell (j + 3)).trans (by have := i64s_getD L (j + 3) (by rw [HL.out]; omega); simpa using this)
          have g0' := g0 0
          have g3' := g3 0
          generalize L.getD j 0 = a at *
          generalize L.getD (j + 3) 0 = b at *
          have hd : decide (b < a) = false := by simp; omega
          go_upto_region 13 with fail
          go_quiet (fail)
          go_wp2_with fail
          go_roundw
          case rel => exact ⟨j + 1, by omega, by go_num, y.drewN nq, below_drewN hb nq⟩
          case measure => simp [intOf]; omega
        · obtain rfl : j = 18 := by omega
          go_wp2_with fail
          go_ret
          exact ⟨rfl, hb⟩
  · have hL := hbad he
    subst hL
    have heb : (e0 != 0) = true := by simpa using he
    have heq : ∀ w, (binOp BinOp.eql 27 (.agg (i64s noneOut).toArray) (.agg #[.int .i64 0, .int .i64 0, .int .i64 0, .int .i64 0, .int .i64 0, .int .i64 0, .int .i64 0, .int .i64 0, .int .i64 0, .int .i64 0, .int .i64 0, .int .i64 0, .int .i64 0, .int .i64 0, .int .i64 0, .int .i64 0, .int .i64 0, .int .i64 0, .int .i64 0, .int .i64 0, .int .i64 0])).run Tryd.prog w = .ok (.bool true) w := by
      intro w
      have := run_eql_ints (P := Tryd.prog) w 27 3 21 .i64 Tryd.underlying27 Tryd.underlying3 (fun w => by kernel_rfl) noneOut noneOut rfl rfl
      rw [beq_self_eq_true] at this
      exact this
    clear hall hbad he hl
    go_wp2_with (first
      | (go_at_call 8; refine (D0.out _ (HT.out.keep hB)).mono ?_; rintro e w1 ⟨rfl, b1⟩; clear D0; have xi1 := xi.keep b1; have xu1 := xu.keep b1; have hB1 := hB.trans (b1.mono hB.size); clear xi xu hB b1; have i0 := xi1.cell 0; have i1 := xi1.cell 1; have i2 := xi1.cell 2; have i3 := xi1.cell 3; have i4 := xi1.cell 4; have i5 := xi1.cell 5; have i6 := xi1.cell 6; have u0 := xu1.cell 0; have u1 := xu1.cell 1; have u2 := xu1.cell 2; have u3 := xu1.cell 3)
      | (go_at_call 9; refine (D1.out _ (HT.out.keep hB1)).mono ?_; rintro e w2 ⟨rfl, b2⟩; clear D1; clear i0 i1 i2 i3 i4 i5 i6 u0 u1 u2 u3; have B2 := b2.trans ((laid_below w2 noneOut).mono b2.size); have y2 := laid_box w2 noneOut; have xi2 := xi1.keep B2; have xu2 := xu1.keep B2; have hB2 := hB1.trans (B2.mono hB1.size); clear xi1 xu1 B2)
      | ((with_reducible refine wpList_store_box rfl 27 (.tmp 7) (.tmp 20) rfl (i64s noneOut).toArray (Box.new w2 27 _) ?_ ?_ ?_ ?_ ?_ ?_); (· exact size21 _ (by simp [i64s, noneOut])); (· simp [i64s, noneOut]); (· exact all_one_i64 _); (· rfl); (· rfl); (change wpList _ _ _ _ _ (laidW w2 noneOut)); have i0 := xi2.cell 0; have i1 := xi2.cell 1; have i2 := xi2.cell 2; have i3 := xi2.cell 3; have i4 := xi2.cell 4; have i5 := xi2.cell 5; have i6 := xi2.cell 6; have u0 := xu2.cell 0; have u1 := xu2.cell 1; have u2 := xu2.cell 2; have u3 := xu2.cell 3)
      | (go_at_call 11; refine (D3.out _).mono ?_; rintro e w4 ⟨rfl, b4⟩; clear D3; clear i0 i1 i2 i3 i4 i5 i6 u0 u1 u2 u3; have y24 := y2.keep b4; have hB4 := hB2.trans (b4.mono hB2.size))
      | ((with_reducible refine wpList_load_box rfl 27 (.tmp 7) rfl y24 Tryd.underlying27 ?_ ?_ ?_ ?_); (· rfl); (· exact size21 _ (by simp [i64s, noneOut])); (· rfl)))
    go_ret
    exact ⟨rfl, hB4⟩

theorem opened (H : Type) (enc : TypeId × Value → H) (W : World) (base : Nat) (args : Array Value) (ds : List (DataW H)) (p : List MemPlace)
    (hval : ∀ (j : Nat) t v, Tryd.f4.params[j]? = some t → args[j]? = some v → Value.okWide Tryd.prog W .any base t v)
    (hA : DataW.TrodAll enc Tryd.prog W 0 (fun _ => true) true Tryd.f4.params.toList args.toList ds p)
    (hr : ∀ x ∈ DataW.weightsEach Tryd.prog Tryd.f4.params.toList ds, x ≤ reachBytes)
    (hL : laidMetH Tryd.prog Rows.gridRisesRow.laid W) :
    Calls Tryd.prog 4 args W fun e W' => e = .returned (.bool true) ∧ Below W.heap.size W W' := by
  rw [Tryd.params4] at hA hval hr
  obtain ⟨v0, vs0, d0, ds0, p0, q0, hargs, rfl, rfl, h0, r0⟩ := trodAll_cons hA
  obtain ⟨v1, vs1, d1, ds1, p1, q1, rfl, rfl, rfl, h1, r1⟩ := trodAll_cons r0
  obtain ⟨v2, vs2, d2, ds2, p2, q2, rfl, rfl, rfl, h2, r2⟩ := trodAll_cons r1
  obtain ⟨rfl, rfl, rfl⟩ := trodAll_nil r2
  obtain rfl : args = #[v0, v1, v2] := by cases args; simp_all
  obtain ⟨k, u, m, s, x, c, r, rfl, _⟩ := open_instr (hval 0 23 v0 rfl rfl) h0
  obtain ⟨n, cu, p, v, rfl, _⟩ := open_under (hval 1 25 v1 rfl rfl) h1
  obtain ⟨d, rfl, rfl, rfl, _⟩ := open_int Tryd.underlying3 (hval 2 3 v2 rfl rfl) h2
  exact walk k u m s x c r n cu p v d W (tab_of_laid hL)
end Go.Proofs.YtjfcghbifhmacaaDoor.gridRises
