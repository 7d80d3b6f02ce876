/- What the document says of reservations: the walks of layer 14. Written by genrbook.py. -/
import Derived.Test.YtocjfjikkdpfdaaGreatDoorLedRBook
set_option linter.unusedSimpArgs false
set_option linter.unusedVariables false
namespace Go.Proofs.YtocjfjikkdpfdaaGreatDoor.LedW
open Go.RowKit Go.Proofs.YtocjfjikkdpfdaaGreatDoor.Bas Go.Proofs.YtocjfjikkdpfdaaGreatDoor.LedM

set_option maxHeartbeats 4000000 in
set_option maxRecDepth 100000 in
theorem tidy_calls (a a2 : Option Addr) (cap cap2 : Nat) (av : List Int) (xs : List Tri) (w : World) (hbig : xs.length ≤ 1000000) (hbig2 : av.length ≤ 1000000) (hav : At w a2 (i64s av)) (hat : At w a (xs.flatMap triC)) :
    Calls Tryz.prog 87 #[.slice a2 av.length cap2, .slice a xs.length cap] w fun e w' => e = .returned (.bool (av.all fits14 && (rising (xs.map (fun p : Tri => (p.1, p.2.1))) && xs.all (fun p : Tri => fits14 p.2.2)))) ∧ Below w.heap.size w w' := by
  have HAt := Lib.hid hat
  have HAv := Lib.hid hav
  clear hat hav
  go_enter Tryz.func87, Tryz.ntmps87
  go_wp2_with fail
  go_loopw [11] (fun i wr => ∃ k : Nat, k ≤ av.length ∧ i = .int .i64 (k : Int) ∧ w = wr ∧ Hid ((av.take k).all fits14 = true)) (fun i _ => av.length - (intOf i).toNat)
  case atStart => exact ⟨0, by omega, rfl, rfl, by simp [Hid]⟩
  case round =>
    obtain ⟨k, hk, rfl, rfl, HQ⟩ := hrel
    by_cases hlt : k < av.length
    · obtain ⟨b, off, ha, c0⟩ := HAv.out k _ (i64s_get av k hlt)
      have HQN := Lib.hid (fun h => all_next (p := fits14) hlt HQ.out h)
      have HQB := Lib.hid (fun h => all_no (p := fits14) hlt h)
      clear HQ
      generalize av[k] = x at *
      have CF := Lib.hid (fun W => rfits14_calls x W)
      rw [ha]
      cases hf : fits14 x with
      | false =>
        rw [hf] at CF
        have HF := Lib.hid (HQB.out hf)
        clear HQN HQB hf ha
        go_wp2_with (go_at_call 99; refine (CF.out _).mono ?_; rintro e w4 ⟨rfl, rfl⟩)
        go_ret
        exact ⟨ret_bool (by rw [HF.out, Bool.false_and]), Below.refl _ _⟩
      | true =>
        rw [hf] at CF
        have HF := Lib.hid (HQN.out hf)
        clear HQN HQB hf ha
        go_wp2_with (go_at_call 99; refine (CF.out _).mono ?_; rintro e w4 ⟨rfl, rfl⟩)
        go_roundw
        case rel => exact ⟨k + 1, by omega, by go_num, by first | trivial | rfl, HF⟩
        case measure => simp [intOf]; omega
    · have HF0 := HQ.out
      rw [List.take_of_length_le (by omega)] at HF0
      have HAL := Lib.hid HF0
      clear HF0 HQ
      go_wp2_with fail
      go_loopw [21] (fun i wr => ∃ k : Nat, k ≤ xs.length ∧ i = .int .i64 (k : Int) ∧ Below w.heap.size w wr ∧ Hid (rising ((xs.map (fun p : Tri => (p.1, p.2.1))).take k) = true) ∧ Hid ((xs.take k).all (fun p : Tri => fits14 p.2.2) = true)) (fun i _ => xs.length - (intOf i).toNat)
      case atStart => exact ⟨0, by omega, rfl, Below.refl _ _, by simp [Hid, rising], by simp [Hid]⟩
      case round =>
        obtain ⟨k, hk, rfl, LW, HR, HQ⟩ := hrel
        by_cases hlt : k < xs.length
        · have hm : k < (xs.map (fun p : Tri => (p.1, p.2.1))).length := by simpa using hlt
          obtain ⟨b, off, ha, C1⟩ := rec_at len_pos (by decide) (HAt.out.keep LW) hlt
          have HQN := Lib.hid (fun h => all_next (p := (fun p : Tri => fits14 p.2.2)) hlt HQ.out h)
          have HQB := Lib.hid (fun h => all_no (p := (fun p : Tri => fits14 p.2.2)) hlt h)
          cases k with
          | zero =>
            have HRN : Hid (rising ((xs.map (fun p : Tri => (p.1, p.2.1))).take 1) = true) := rising_one
            clear HR HQ hm
            generalize xs[0] = x at *
            obtain ⟨x0, x1, x2⟩ := x
            have c0 := C1 0 _ rfl
            have c1 := C1 1 _ rfl
            have c2 := C1 2 _ rfl
            clear C1
            simp only [Nat.zero_mul, Nat.zero_add, Nat.add_zero] at c0 c1 c2
            rw [ha]
            go_upto_region 10 with fail
            have XA := Box.new wr 66 #[.int .i64 x0, .int .i64 x1, .int .i64 x2]
            have LB := LW.alloc LW.size (.cells #[.int .i64 x0, .int .i64 x1, .int .i64 x2] 66)
            clear c0 c1 c2 ha LW
            generalize wr.alloc (.cells #[.int .i64 x0, .int .i64 x1, .int .i64 x2] 66) = w3 at *
            have HX := Lib.hid XA
            have HL := Lib.hid LB
            clear XA LB
            obtain ⟨g, hg⟩ : ∃ g, g = wr.heap.size := ⟨_, rfl⟩
            rw [← hg] at HX ⊢
            clear hg
            have e0 : w3.cell? ⟨g, 0, none⟩ = some (.int .i64 x0) := HX.out.cell 0
            have e1 : w3.cell? ⟨g, 1, none⟩ = some (.int .i64 x1) := HX.out.cell 1
            have e2 : w3.cell? ⟨g, 2, none⟩ = some (.int .i64 x2) := HX.out.cell 2
            cases hf : fits14 x2 with
            | false =>
              have HF := Lib.hid (HQB.out hf)
              have CF := Lib.hid (fun W => rfits14_calls x2 W)
              rw [hf] at CF
              clear HQN HQB hf e0 e1 e2
              have X00 := And.intro (box_drew0 HX.out) HL.out.drew
              refine kept_region (fun W => W.cell? ⟨g, 0, none⟩ = some (.int .i64 x0) ∧ W.cell? ⟨g, 1, none⟩ = some (.int .i64 x1) ∧ W.cell? ⟨g, 2, none⟩ = some (.int .i64 x2) ∧ (Box W g 66 #[.int .i64 x0, .int .i64 x1, .int .i64 x2] ∧ Below w.heap.size w W)) (by kernel_rfl) (by kernel_rfl) ⟨X00.1.cell 0, X00.1.cell 1, X00.1.cell 2, X00⟩ ?_
              clear X00
              repeat first
                | (refine' kept_go _ _ (fun W hW => _) _; rotate_left; (focus (go_simp; done)); (refine ⟨?_⟩; obtain ⟨k1, k2, k3, X9⟩ := hW; go_simp; first | done | (with_reducible rfl) | (go_at_call 99; refine (CF.out W).mono ?_; rintro e w2 ⟨rfl, rfl⟩; have Y := X9; refine And.intro ?_ ⟨Y.1.cell 0, Y.1.cell 1, Y.1.cell 2, Y⟩; with_reducible rfl)); simp only [Act.put, List.setIfInBounds_toArray, List.set_cons_zero, List.set_cons_succ])
                | (refine kept_skip ?_ ?_; (focus (first | (go_simp; done) | kernel_rfl)); simp only [Act.put, List.setIfInBounds_toArray, List.set_cons_zero, List.set_cons_succ])
              refine kept_end ?_
              rintro w4 ⟨k1, k2, k3, X9⟩
              go_wp2_with fail
              go_ret
              exact ⟨ret_bool (by rw [HAL.out, HF.out, Bool.and_false, Bool.and_false]), X9.2⟩
            | true =>
            have HF := Lib.hid (HQN.out hf)
            have CF := Lib.hid (fun W => rfits14_calls x2 W)
            rw [hf] at CF
            clear HQN HQB hf
            clear e0 e1 e2
            have X00 := And.intro (box_drew0 HX.out) HL.out.drew
            refine kept_region (fun W => W.cell? ⟨g, 0, none⟩ = some (.int .i64 x0) ∧ W.cell? ⟨g, 1, none⟩ = some (.int .i64 x1) ∧ W.cell? ⟨g, 2, none⟩ = some (.int .i64 x2) ∧ (Box W g 66 #[.int .i64 x0, .int .i64 x1, .int .i64 x2] ∧ Below w.heap.size w W)) (by kernel_rfl) (by kernel_rfl) ⟨X00.1.cell 0, X00.1.cell 1, X00.1.cell 2, X00⟩ ?_
            clear X00
            repeat first
              | (refine' kept_go _ _ (fun W hW => _) _; rotate_left; (focus (go_simp; done)); (refine ⟨?_⟩; obtain ⟨k1, k2, k3, X9⟩ := hW; go_simp; first | done | (with_reducible rfl) | (go_at_call 99; refine (CF.out W).mono ?_; rintro e w2 ⟨rfl, rfl⟩; have Y := X9; refine And.intro ?_ ⟨Y.1.cell 0, Y.1.cell 1, Y.1.cell 2, Y⟩; with_reducible rfl)); simp only [Act.put, List.setIfInBounds_toArray, List.set_cons_zero, List.set_cons_succ])
              | (refine kept_skip ?_ ?_; (focus (first | (go_simp; done) | kernel_rfl)); simp only [Act.put, List.setIfInBounds_toArray, List.set_cons_zero, List.set_cons_succ])
            refine kept_end ?_
            rintro w4 ⟨k1, k2, k3, X9⟩
            clear k1 k2 k3
            go_wp2_with fail
            go_roundw
            case rel => exact ⟨1, by omega, by go_num, X9.2, HRN, HF⟩
            case measure => simp [intOf]; omega
          | succ j =>
            have hjl : j < xs.length := by omega
            have hw1 : IntKind.i64.wrap (j : Int) = j := IntWalk.i64_in _ (by omega)
            have HRN : Hid (LedM.ahead ((fun p : Tri => (p.1, p.2.1)) xs[j]) ((fun p : Tri => (p.1, p.2.1)) xs[j + 1]) → rising ((xs.map (fun p : Tri => (p.1, p.2.1))).take (j + 1 + 1)) = true) := fun h => rising_next (by simpa using hlt) HR.out (by simpa using h)
            have HRB : Hid (¬ LedM.ahead ((fun p : Tri => (p.1, p.2.1)) xs[j]) ((fun p : Tri => (p.1, p.2.1)) xs[j + 1]) → rising (xs.map (fun p : Tri => (p.1, p.2.1))) = false) := fun h => rising_no (k := j) (by simpa using hlt) (by simpa using h)
            clear HR HQ hm
            obtain ⟨y, hy⟩ : ∃ y, xs[j] = y := ⟨_, rfl⟩
            rw [hy] at HRN HRB
            have HYE := Lib.hid hy
            clear hy
            generalize xs[j + 1] = x at *
            obtain ⟨y0, y1, y2⟩ := y
            obtain ⟨x0, x1, x2⟩ := x
            simp only at HRN HRB
            have c0 := C1 0 _ rfl
            have c1 := C1 1 _ rfl
            have c2 := C1 2 _ rfl
            clear C1
            simp only [← Nat.add_assoc, Nat.add_zero] at c0 c1 c2
            rw [ha]
            go_upto_region 10 with fail
            have XA := Box.new wr 66 #[.int .i64 x0, .int .i64 x1, .int .i64 x2]
            have LB := LW.alloc LW.size (.cells #[.int .i64 x0, .int .i64 x1, .int .i64 x2] 66)
            have hat3 := (HAt.out.keep LW).keep ((Below.refl wr.heap.size wr).alloc (Nat.le_refl _) (.cells #[.int .i64 x0, .int .i64 x1, .int .i64 x2] 66))
            obtain ⟨b2, off2, ha2, C2⟩ := rec_at len_pos (by decide) hat3 (show j < xs.length by omega)
            rw [ha] at ha2
            cases ha2
            rw [HYE.out] at C2
            have d0 := C2 0 _ rfl
            have d1 := C2 1 _ rfl
            clear C2 hat3
            simp only [← Nat.add_assoc, Nat.add_zero] at d0 d1
            clear c0 c1 c2 ha LW
            generalize wr.alloc (.cells #[.int .i64 x0, .int .i64 x1, .int .i64 x2] 66) = w3 at *
            have HX := Lib.hid XA
            have HL := Lib.hid LB
            clear XA LB
            obtain ⟨g, hg⟩ : ∃ g, g = wr.heap.size := ⟨_, rfl⟩
            rw [← hg] at HX ⊢
            clear hg
            have e0 : w3.cell? ⟨g, 0, none⟩ = some (.int .i64 x0) := HX.out.cell 0
            have e1 : w3.cell? ⟨g, 1, none⟩ = some (.int .i64 x1) := HX.out.cell 1
            have e2 : w3.cell? ⟨g, 2, none⟩ = some (.int .i64 x2) := HX.out.cell 2
            have HD0 := Lib.hid d0
            have HD1 := Lib.hid d1
            clear d0 d1
            cases hf : fits14 x2 with
            | false =>
              have HF := Lib.hid (HQB.out hf)
              have CF := Lib.hid (fun W => rfits14_calls x2 W)
              rw [hf] at CF
              clear HQN HQB hf e0 e1 e2
              have X00 := And.intro (box_drew0 HX.out) HL.out.drew
              refine kept_region (fun W => W.cell? ⟨g, 0, none⟩ = some (.int .i64 x0) ∧ W.cell? ⟨g, 1, none⟩ = some (.int .i64 x1) ∧ W.cell? ⟨g, 2, none⟩ = some (.int .i64 x2) ∧ (Box W g 66 #[.int .i64 x0, .int .i64 x1, .int .i64 x2] ∧ Below w.heap.size w W)) (by kernel_rfl) (by kernel_rfl) ⟨X00.1.cell 0, X00.1.cell 1, X00.1.cell 2, X00⟩ ?_
              clear X00
              repeat first
                | (refine' kept_go _ _ (fun W hW => _) _; rotate_left; (focus (go_simp; done)); (refine ⟨?_⟩; obtain ⟨k1, k2, k3, X9⟩ := hW; go_simp; first | done | (with_reducible rfl) | (go_at_call 99; refine (CF.out W).mono ?_; rintro e w2 ⟨rfl, rfl⟩; have Y := X9; refine And.intro ?_ ⟨Y.1.cell 0, Y.1.cell 1, Y.1.cell 2, Y⟩; with_reducible rfl)); simp only [Act.put, List.setIfInBounds_toArray, List.set_cons_zero, List.set_cons_succ])
                | (refine kept_skip ?_ ?_; (focus (first | (go_simp; done) | kernel_rfl)); simp only [Act.put, List.setIfInBounds_toArray, List.set_cons_zero, List.set_cons_succ])
              refine kept_end ?_
              rintro w4 ⟨k1, k2, k3, X9⟩
              go_wp2_with fail
              go_ret
              exact ⟨ret_bool (by rw [HAL.out, HF.out, Bool.and_false, Bool.and_false]), X9.2⟩
            | true =>
            have HF := Lib.hid (HQN.out hf)
            have CF := Lib.hid (fun W => rfits14_calls x2 W)
            rw [hf] at CF
            clear HQN HQB hf
            have HBL : Hid (b < w3.heap.size) := World.block_lt_of_cell? _ _ HD0.out
            rcases Int.lt_trichotomy y0 x0 with hlt1 | heq1 | hgt1
            · have HRX := Lib.hid (HRN.out (.inl hlt1))
              have hb1 : decide (y0 > x0) = false := by simp; omega
              have hb2 : (y0 == x0) = false := by simp; omega
              have hn1 : ¬ x0 < y0 := by omega
              clear HRN HRB
              clear e0 e1 e2
              have X00 := And.intro (box_drew0 HX.out) (And.intro HL.out.drew (Below.refl w3.heap.size w3).drew)
              refine kept_region (fun W => W.cell? ⟨g, 0, none⟩ = some (.int .i64 x0) ∧ W.cell? ⟨g, 1, none⟩ = some (.int .i64 x1) ∧ W.cell? ⟨g, 2, none⟩ = some (.int .i64 x2) ∧ W.cell? ⟨b, off + j * 3, none⟩ = some (.int .i64 y0) ∧ W.cell? ⟨b, off + j * 3 + 1, none⟩ = some (.int .i64 y1) ∧ (Box W g 66 #[.int .i64 x0, .int .i64 x1, .int .i64 x2] ∧ Below w.heap.size w W ∧ Below w3.heap.size w3 W)) (by kernel_rfl) (by kernel_rfl) ⟨X00.1.cell 0, X00.1.cell 1, X00.1.cell 2, (Below.cell X00.2.2 HBL.out).trans HD0.out, (Below.cell X00.2.2 HBL.out).trans HD1.out, X00⟩ ?_
              clear X00
              repeat first
                | (refine' kept_go _ _ (fun W hW => _) _; rotate_left; (focus (go_simp; done)); (refine ⟨?_⟩; obtain ⟨k1, k2, k3, k4, k5, X9⟩ := hW; go_simp; first | done | (with_reducible rfl) | (go_at_call 99; refine (CF.out W).mono ?_; rintro e w2 ⟨rfl, rfl⟩; have Y := X9; refine And.intro ?_ ⟨Y.1.cell 0, Y.1.cell 1, Y.1.cell 2, (Below.cell Y.2.2 HBL.out).trans HD0.out, (Below.cell Y.2.2 HBL.out).trans HD1.out, Y⟩; with_reducible rfl)); simp only [Act.put, List.setIfInBounds_toArray, List.set_cons_zero, List.set_cons_succ])
                | (refine kept_skip ?_ ?_; (focus (first | (go_simp; done) | kernel_rfl)); simp only [Act.put, List.setIfInBounds_toArray, List.set_cons_zero, List.set_cons_succ])
              refine kept_end ?_
              rintro w4 ⟨k1, k2, k3, k4, k5, X9⟩
              clear k1 k2 k3 k4 k5
              go_wp2_with fail
              go_roundw
              case rel => exact ⟨j + 1 + 1, by omega, by go_num, X9.2.1, HRX, HF⟩
              case measure => simp [intOf]; omega
            · have hn0 : ¬ x0 < y0 := by omega
              have heqb : (y0 == x0) = true := by simpa using heq1
              by_cases h2 : y1 < x1
              · have HRX := Lib.hid (HRN.out (.inr ⟨heq1, h2⟩))
                have hn1 : ¬ x1 ≤ y1 := by omega
                clear HRN HRB heq1
                clear e0 e1 e2
                have X00 := And.intro (box_drew0 HX.out) (And.intro HL.out.drew (Below.refl w3.heap.size w3).drew)
                refine kept_region (fun W => W.cell? ⟨g, 0, none⟩ = some (.int .i64 x0) ∧ W.cell? ⟨g, 1, none⟩ = some (.int .i64 x1) ∧ W.cell? ⟨g, 2, none⟩ = some (.int .i64 x2) ∧ W.cell? ⟨b, off + j * 3, none⟩ = some (.int .i64 y0) ∧ W.cell? ⟨b, off + j * 3 + 1, none⟩ = some (.int .i64 y1) ∧ (Box W g 66 #[.int .i64 x0, .int .i64 x1, .int .i64 x2] ∧ Below w.heap.size w W ∧ Below w3.heap.size w3 W)) (by kernel_rfl) (by kernel_rfl) ⟨X00.1.cell 0, X00.1.cell 1, X00.1.cell 2, (Below.cell X00.2.2 HBL.out).trans HD0.out, (Below.cell X00.2.2 HBL.out).trans HD1.out, X00⟩ ?_
                clear X00
                repeat first
                  | (refine' kept_go _ _ (fun W hW => _) _; rotate_left; (focus (go_simp; done)); (refine ⟨?_⟩; obtain ⟨k1, k2, k3, k4, k5, X9⟩ := hW; go_simp; first | done | (with_reducible rfl) | (go_at_call 99; refine (CF.out W).mono ?_; rintro e w2 ⟨rfl, rfl⟩; have Y := X9; refine And.intro ?_ ⟨Y.1.cell 0, Y.1.cell 1, Y.1.cell 2, (Below.cell Y.2.2 HBL.out).trans HD0.out, (Below.cell Y.2.2 HBL.out).trans HD1.out, Y⟩; with_reducible rfl)); simp only [Act.put, List.setIfInBounds_toArray, List.set_cons_zero, List.set_cons_succ])
                  | (refine kept_skip ?_ ?_; (focus (first | (go_simp; done) | kernel_rfl)); simp only [Act.put, List.setIfInBounds_toArray, List.set_cons_zero, List.set_cons_succ])
                refine kept_end ?_
                rintro w4 ⟨k1, k2, k3, k4, k5, X9⟩
                clear k1 k2 k3 k4 k5
                go_wp2_with fail
                go_roundw
                case rel => exact ⟨j + 1 + 1, by omega, by go_num, X9.2.1, HRX, HF⟩
                case measure => simp [intOf]; omega
              · have HRX := Lib.hid (HRB.out (fun h => by unfold LedM.ahead at h; simp only at h; omega))
                have hn1 : x1 ≤ y1 := by omega
                clear HRN HRB heq1
                clear e0 e1 e2
                have X00 := And.intro (box_drew0 HX.out) (And.intro HL.out.drew (Below.refl w3.heap.size w3).drew)
                refine kept_region (fun W => W.cell? ⟨g, 0, none⟩ = some (.int .i64 x0) ∧ W.cell? ⟨g, 1, none⟩ = some (.int .i64 x1) ∧ W.cell? ⟨g, 2, none⟩ = some (.int .i64 x2) ∧ W.cell? ⟨b, off + j * 3, none⟩ = some (.int .i64 y0) ∧ W.cell? ⟨b, off + j * 3 + 1, none⟩ = some (.int .i64 y1) ∧ (Box W g 66 #[.int .i64 x0, .int .i64 x1, .int .i64 x2] ∧ Below w.heap.size w W ∧ Below w3.heap.size w3 W)) (by kernel_rfl) (by kernel_rfl) ⟨X00.1.cell 0, X00.1.cell 1, X00.1.cell 2, (Below.cell X00.2.2 HBL.out).trans HD0.out, (Below.cell X00.2.2 HBL.out).trans HD1.out, X00⟩ ?_
                clear X00
                repeat first
                  | (refine' kept_go _ _ (fun W hW => _) _; rotate_left; (focus (go_simp; done)); (refine ⟨?_⟩; obtain ⟨k1, k2, k3, k4, k5, X9⟩ := hW; go_simp; first | done | (with_reducible rfl) | (go_at_call 99; refine (CF.out W).mono ?_; rintro e w2 ⟨rfl, rfl⟩; have Y := X9; refine And.intro ?_ ⟨Y.1.cell 0, Y.1.cell 1, Y.1.cell 2, (Below.cell Y.2.2 HBL.out).trans HD0.out, (Below.cell Y.2.2 HBL.out).trans HD1.out, Y⟩; with_reducible rfl)); simp only [Act.put, List.setIfInBounds_toArray, List.set_cons_zero, List.set_cons_succ])
                  | (refine kept_skip ?_ ?_; (focus (first | (go_simp; done) | kernel_rfl)); simp only [Act.put, List.setIfInBounds_toArray, List.set_cons_zero, List.set_cons_succ])
                refine kept_end ?_
                rintro w4 ⟨k1, k2, k3, k4, k5, X9⟩
                clear k1 k2 k3 k4 k5
                go_wp2_with fail
                go_ret
                exact ⟨ret_bool (by rw [HRX.out, Bool.false_and, Bool.and_false]), X9.2.1⟩
            · have HRX := Lib.hid (HRB.out (fun h => by unfold LedM.ahead at h; simp only at h; omega))
              have hn1 : x0 < y0 := by omega
              clear HRN HRB
              clear e0 e1 e2
              have X00 := And.intro (box_drew0 HX.out) (And.intro HL.out.drew (Below.refl w3.heap.size w3).drew)
              refine kept_region (fun W => W.cell? ⟨g, 0, none⟩ = some (.int .i64 x0) ∧ W.cell? ⟨g, 1, none⟩ = some (.int .i64 x1) ∧ W.cell? ⟨g, 2, none⟩ = some (.int .i64 x2) ∧ W.cell? ⟨b, off + j * 3, none⟩ = some (.int .i64 y0) ∧ W.cell? ⟨b, off + j * 3 + 1, none⟩ = some (.int .i64 y1) ∧ (Box W g 66 #[.int .i64 x0, .int .i64 x1, .int .i64 x2] ∧ Below w.heap.size w W ∧ Below w3.heap.size w3 W)) (by kernel_rfl) (by kernel_rfl) ⟨X00.1.cell 0, X00.1.cell 1, X00.1.cell 2, (Below.cell X00.2.2 HBL.out).trans HD0.out, (Below.cell X00.2.2 HBL.out).trans HD1.out, X00⟩ ?_
              clear X00
              repeat first
                | (refine' kept_go _ _ (fun W hW => _) _; rotate_left; (focus (go_simp; done)); (refine ⟨?_⟩; obtain ⟨k1, k2, k3, k4, k5, X9⟩ := hW; go_simp; first | done | (with_reducible rfl) | (go_at_call 99; refine (CF.out W).mono ?_; rintro e w2 ⟨rfl, rfl⟩; have Y := X9; refine And.intro ?_ ⟨Y.1.cell 0, Y.1.cell 1, Y.1.cell 2, (Below.cell Y.2.2 HBL.out).trans HD0.out, (Below.cell Y.2.2 HBL.out).trans HD1.out, Y⟩; with_reducible rfl)); simp only [Act.put, List.setIfInBounds_toArray, List.set_cons_zero, List.set_cons_succ])
                | (refine kept_skip ?_ ?_; (focus (first | (go_simp; done) | kernel_rfl)); simp only [Act.put, List.setIfInBounds_toArray, List.set_cons_zero, List.set_cons_succ])
              refine kept_end ?_
              rintro w4 ⟨k1, k2, k3, k4, k5, X9⟩
              clear k1 k2 k3 k4 k5
              go_wp2_with fail
              go_ret
              exact ⟨ret_bool (by rw [HRX.out, Bool.false_and, Bool.and_false]), X9.2.1⟩
        · obtain rfl : k = xs.length := by omega
          have HF1 := HR.out
          have HF2 := HQ.out
          rw [List.take_of_length_le (by simp)] at HF1
          rw [List.take_length] at HF2
          have HE1 := Lib.hid HF1
          have HE2 := Lib.hid HF2
          clear HF1 HF2 HR HQ
          go_wp2_with fail
          go_ret
          exact ⟨ret_bool (by rw [HAL.out, HE1.out, HE2.out]; rfl), LW⟩
theorem rlocs_fit {xs : List Tri} {n m : Int} (h : xs.all (fun p : Tri => fits14 p.2.2) = false) : xs.all (locOk n m) = false := by
  rw [List.all_eq_false] at h ⊢
  obtain ⟨x, hx, h2⟩ := h
  refine ⟨x, hx, fun h3 => h2 ?_⟩
  have := (locOk_iff n m x.1 x.2.1 x.2.2).1 h3
  exact decide_eq_true (by omega)
theorem fits14_av (av : List Int) : av.all (fun q => decide (0 ≤ q ∧ q ≤ MaxQty)) = av.all fits14 := rfl
set_option maxHeartbeats 4000000 in
set_option maxRecDepth 100000 in
theorem rlocs_calls (a a2 : Option Addr) (cap cap2 : Nat) (av : List Int) (xs : List Tri) (n m : Int) (w : World) (hbig : xs.length ≤ 1000000) (hbig2 : av.length ≤ 1000000) (hav : At w a2 (i64s av)) (hat : At w a (xs.flatMap triC)) :
    Calls Tryz.prog 58 #[.slice a2 av.length cap2, .slice a xs.length cap, .int .i64 n, .int .i64 m] w fun e w' => e = .returned (.bool (locsF av xs n m)) ∧ Below w.heap.size w w' := by
  have HAt := Lib.hid hat
  have C := Lib.hid (tidy_calls a a2 cap cap2 av xs w hbig hbig2 hav hat)
  have HE : Hid (locsF av xs n m = (decide ((av.length : Int) = m) && decide (xs.length ≤ 32) && av.all fits14 && rising (xs.map (fun p : Tri => (p.1, p.2.1))) && xs.all (locOk n m))) := rfl
  have HNF := Lib.hid (rlocs_fit (xs := xs) (n := n) (m := m))
  clear hat hav
  generalize locsF av xs n m = q at HE ⊢
  go_enter Tryz.func58, Tryz.ntmps58
  by_cases hm : (av.length : Int) = m
  rotate_left
  · have HF : Hid (q = false) := by unfold Hid; rw [HE.out, decide_eq_false hm]; simp
    have hmb : ((av.length : Int) != m) = true := by simpa using hm
    clear HE HNF hm
    go_wp2_with fail
    go_ret
    exact ⟨ret_bool HF.out.symm, Below.refl _ _⟩
  have hmb : ((av.length : Int) != m) = false := by simpa using hm
  have HM := Lib.hid (decide_eq_true hm)
  clear hm
  by_cases hl : 32 < xs.length
  · have HF : Hid (q = false) := by unfold Hid; rw [HE.out, decide_eq_false (show ¬ xs.length ≤ 32 by omega)]; simp
    clear HE HNF HM
    go_wp2_with fail
    go_ret
    exact ⟨ret_bool HF.out.symm, Below.refl _ _⟩
  have HL : Hid (decide (xs.length ≤ 32) = true) := decide_eq_true (by omega)
  cases hr : av.all fits14 && (rising (xs.map (fun p : Tri => (p.1, p.2.1))) && xs.all (fun p : Tri => fits14 p.2.2)) with
  | false =>
    rw [hr] at C
    have HF : Hid (q = false) := by
      unfold Hid
      rw [HE.out]
      rcases Bool.and_eq_false_iff.1 hr with h | h
      · rw [h]; simp
      · rcases Bool.and_eq_false_iff.1 h with h | h
        · rw [h]; simp
        · rw [HNF.out h]; simp
    clear HE HNF hr HM HL
    go_wp2_with (go_at_call 87; refine C.out.mono ?_; rintro e w2 ⟨rfl, b2⟩)
    go_ret
    exact ⟨ret_bool HF.out.symm, b2⟩
  | true =>
  rw [hr] at C
  rw [Bool.and_eq_true, Bool.and_eq_true] at hr
  have HFits := Lib.hid hr.2.2
  have HQ : Hid (q = xs.all (locOk n m)) := by unfold Hid; rw [HE.out, HM.out, HL.out, hr.1, hr.2.1]; rfl
  clear HE HNF hr HL HM
  go_wp2_with (go_at_call 87; refine C.out.mono ?_; rintro e w2 ⟨rfl, b2⟩)
  go_loopw [28] (fun i wr => ∃ k : Nat, k ≤ xs.length ∧ i = .int .i64 (k : Int) ∧ Below w.heap.size w wr ∧ Hid ((xs.take k).all (locOk n m) = true)) (fun i _ => xs.length - (intOf i).toNat)
  case atStart => exact ⟨0, by omega, rfl, b2, by simp [Hid]⟩
  case round =>
    have HQ0 := HQ
    clear HQ
    obtain ⟨k, hk, rfl, LW, HQ⟩ := hrel
    by_cases hlt : k < xs.length
    · obtain ⟨b, off, ha, C1⟩ := rec_at len_pos (by decide) (HAt.out.keep LW) hlt
      have HQN := Lib.hid (fun h => all_next (p := (locOk n m)) hlt HQ.out h)
      have HQB := Lib.hid (fun h => all_no (p := (locOk n m)) hlt h)
      have HFit := Lib.hid (List.all_eq_true.1 HFits.out _ (List.getElem_mem hlt))
      clear HQ
      generalize xs[k] = x at *
      obtain ⟨x0, x1, x2⟩ := x
      have hfit := of_decide_eq_true HFit.out
      simp only at hfit
      have HOK := Lib.hid (locOk_iff n m x0 x1 x2)
      have c0 := C1 0 _ rfl
      have c1 := C1 1 _ rfl
      have c2 := C1 2 _ rfl
      clear C1 HFit
      simp only [← Nat.add_assoc, Nat.add_zero] at c0 c1 c2
      rw [ha]
      go_upto_region 6 with fail
      have XA := Box.new wr 66 #[.int .i64 x0, .int .i64 x1, .int .i64 x2]
      have LB := Lib.hid (LW.alloc LW.size (.cells #[.int .i64 x0, .int .i64 x1, .int .i64 x2] 66))
      clear c0 c1 c2 ha LW
      generalize wr.alloc (.cells #[.int .i64 x0, .int .i64 x1, .int .i64 x2] 66) = w3 at *
      obtain ⟨g, hg⟩ : ∃ g, g = wr.heap.size := ⟨_, rfl⟩
      rw [← hg] at XA ⊢
      clear hg
      have e0 : w3.cell? ⟨g, 0, none⟩ = some (.int .i64 x0) := XA.cell 0
      have e1 : w3.cell? ⟨g, 1, none⟩ = some (.int .i64 x1) := XA.cell 1
      have e2 : w3.cell? ⟨g, 2, none⟩ = some (.int .i64 x2) := XA.cell 2
      clear XA
      by_cases h0 : x0 < 2
      · have hno : (locOk n m) ⟨x0, x1, x2⟩ = false := by
          rw [Bool.eq_false_iff]
          intro h
          have := HOK.out.1 h
          omega
        have HF := Lib.hid (HQB.out hno)
        clear HQN HQB hno HOK hfit
        go_wp2_with fail
        go_ret
        exact ⟨ret_bool (by rw [HQ0.out, HF.out]), LB.out⟩
      by_cases h1 : n ≤ x0
      · have hno : (locOk n m) ⟨x0, x1, x2⟩ = false := by
          rw [Bool.eq_false_iff]
          intro h
          have := HOK.out.1 h
          omega
        have HF := Lib.hid (HQB.out hno)
        clear HQN HQB hno HOK hfit
        go_wp2_with fail
        go_ret
        exact ⟨ret_bool (by rw [HQ0.out, HF.out]), LB.out⟩
      by_cases h2 : x1 < 0
      · have hno : (locOk n m) ⟨x0, x1, x2⟩ = false := by
          rw [Bool.eq_false_iff]
          intro h
          have := HOK.out.1 h
          omega
        have HF := Lib.hid (HQB.out hno)
        clear HQN HQB hno HOK hfit
        go_wp2_with fail
        go_ret
        exact ⟨ret_bool (by rw [HQ0.out, HF.out]), LB.out⟩
      by_cases h3 : m ≤ x1
      · have hno : (locOk n m) ⟨x0, x1, x2⟩ = false := by
          rw [Bool.eq_false_iff]
          intro h
          have := HOK.out.1 h
          omega
        have HF := Lib.hid (HQB.out hno)
        clear HQN HQB hno HOK hfit
        go_wp2_with fail
        go_ret
        exact ⟨ret_bool (by rw [HQ0.out, HF.out]), LB.out⟩
      by_cases h4 : x2 = 0
      · have hno : (locOk n m) ⟨x0, x1, x2⟩ = false := by
          rw [Bool.eq_false_iff]
          intro h
          have := HOK.out.1 h
          omega
        have HF := Lib.hid (HQB.out hno)
        clear HQN HQB hno HOK hfit
        go_wp2_with fail
        go_ret
        exact ⟨ret_bool (by rw [HQ0.out, HF.out]), LB.out⟩
      have hyes : (locOk n m) ⟨x0, x1, x2⟩ = true := HOK.out.2 (by omega)
      have HF := Lib.hid (HQN.out hyes)
      clear HQN HQB hyes HOK hfit
      go_wp2_with fail
      go_roundw
      case rel => exact ⟨k + 1, by omega, by go_num, LB.out, HF⟩
      case measure => simp [intOf]; omega
    · obtain rfl : k = xs.length := by omega
      have HF1 := HQ.out
      rw [List.take_length] at HF1
      have HE := Lib.hid HF1
      clear HF1 HQ
      go_wp2_with fail
      go_ret
      exact ⟨ret_bool (by rw [HQ0.out, HE.out]), LW⟩
end Go.Proofs.YtocjfjikkdpfdaaGreatDoor.LedW
