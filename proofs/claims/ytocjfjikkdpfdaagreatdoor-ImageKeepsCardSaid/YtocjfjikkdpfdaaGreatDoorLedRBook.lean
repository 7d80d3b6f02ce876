/- What the document says of positions, orders, reservations: the walks of layers 13 and 14. Written by genrbook.py. -/
import Derived.Test.YtocjfjikkdpfdaaGreatDoorLedLists
import Derived.Test.YtocjfjikkdpfdaaGreatDoorBaseKept
import Derived.Deep.Cut
set_option linter.unusedSimpArgs false
set_option linter.unusedVariables false
namespace Go.Proofs.YtocjfjikkdpfdaaGreatDoor.LedW
open Go.RowKit Go.Proofs.YtocjfjikkdpfdaaGreatDoor.Bas Go.Proofs.YtocjfjikkdpfdaaGreatDoor.LedM

theorem take_map {α β : Type} (f : α → β) (l : List α) (k : Nat) : (l.take k).map f = (l.map f).take k := by rw [List.map_take]
theorem rising_next {l : List (Int × Int)} {k : Nat} (hk : k + 1 < l.length) (h : rising (l.take (k + 1)) = true) (ha : LedM.ahead l[k] l[k + 1]) : rising (l.take (k + 2)) = true := by
  rw [rising_iff] at h ⊢
  intro i hi
  have hl : i + 1 < l.length := by simp at hi; omega
  by_cases h1 : i = k
  · subst h1
    simpa using ha
  · have := h i (by simp at hi ⊢; omega)
    simpa using this
theorem rising_one {l : List (Int × Int)} : rising (l.take 1) = true := by
  match l with
  | [] => rfl
  | [_] => rfl
  | _ :: _ :: _ => rfl
theorem rising_no {l : List (Int × Int)} {k : Nat} (hk : k + 1 < l.length) (ha : ¬ LedM.ahead l[k] l[k + 1]) : rising l = false := by
  cases h : rising l with
  | false => rfl
  | true => exact absurd (rising_iff.1 h k hk) ha
theorem all_next {α : Type} {p : α → Bool} {l : List α} {k : Nat} (hk : k < l.length) (h : (l.take k).all p = true) (hp : p l[k] = true) : (l.take (k + 1)).all p = true := by
  rw [List.take_succ_eq_append_getElem hk, List.all_append, h]
  simp [hp]
theorem all_no {α : Type} {p : α → Bool} {l : List α} {k : Nat} (hk : k < l.length) (hp : p l[k] = false) : l.all p = false := List.all_eq_false.2 ⟨_, List.getElem_mem hk, by simp [hp]⟩
def fits13 (q : Int) : Bool := decide (-1000000000 ≤ q ∧ q ≤ 1000000000)
def fits14 (q : Int) : Bool := decide (0 ≤ q ∧ q ≤ 1000000000)

theorem rfits13_calls (q : Int) (w : World) : Calls Tryz.prog 98 #[.int .i64 q] w fun e w' => e = .returned (.bool (fits13 q)) ∧ w = w' := by
  by_cases h1 : (-1000000000 : Int) ≤ q
  · by_cases h2 : q ≤ 1000000000
    · have HQ : Hid (fits13 q = true) := decide_eq_true ⟨h1, h2⟩
      go_enter Tryz.func98, Tryz.ntmps98
      go_wp2_with fail
      go_ret
      exact ⟨ret_bool HQ.out.symm, rfl⟩
    · have HQ : Hid (fits13 q = false) := decide_eq_false (fun h => h2 h.2)
      go_enter Tryz.func98, Tryz.ntmps98
      go_wp2_with fail
      go_ret
      exact ⟨ret_bool HQ.out.symm, rfl⟩
  · have HQ : Hid (fits13 q = false) := decide_eq_false (fun h => h1 h.1)
    go_enter Tryz.func98, Tryz.ntmps98
    go_wp2_with fail
    go_ret
    exact ⟨ret_bool HQ.out.symm, rfl⟩

theorem rfits14_calls (q : Int) (w : World) : Calls Tryz.prog 99 #[.int .i64 q] w fun e w' => e = .returned (.bool (fits14 q)) ∧ w = w' := by
  by_cases h1 : (0 : Int) ≤ q
  · by_cases h2 : q ≤ 1000000000
    · have HQ : Hid (fits14 q = true) := decide_eq_true ⟨h1, h2⟩
      go_enter Tryz.func99, Tryz.ntmps99
      go_wp2_with fail
      go_ret
      exact ⟨ret_bool HQ.out.symm, rfl⟩
    · have HQ : Hid (fits14 q = false) := decide_eq_false (fun h => h2 h.2)
      go_enter Tryz.func99, Tryz.ntmps99
      go_wp2_with fail
      go_ret
      exact ⟨ret_bool HQ.out.symm, rfl⟩
  · have HQ : Hid (fits14 q = false) := decide_eq_false (fun h => h1 h.1)
    go_enter Tryz.func99, Tryz.ntmps99
    go_wp2_with fail
    go_ret
    exact ⟨ret_bool HQ.out.symm, rfl⟩

theorem box_drew0 {W : World} {g : Nat} {t : TypeId} {cs : Array Value} (h : Box W g t cs) : Box W.drew g t cs := h

set_option maxHeartbeats 4000000 in
set_option maxRecDepth 100000 in
theorem posRise_calls (a : Option Addr) (cap : Nat) (xs : List Tri) (w : World) (hbig : xs.length ≤ 1000000) (hat : At w a (xs.flatMap triC)) :
    Calls Tryz.prog 85 #[.slice a xs.length cap] w fun e w' => e = .returned (.bool (rising (xs.map (fun p : Tri => (p.1, p.2.1))) && xs.all (fun p : Tri => fits13 p.2.2))) ∧ Below w.heap.size w w' := by
  have HAt := Lib.hid hat
  clear hat
  go_enter Tryz.func85, Tryz.ntmps85
  go_wp2_with fail
  go_loopw [7] (fun i wr => ∃ k : Nat, k ≤ xs.length ∧ i = .int .i64 (k : Int) ∧ Below w.heap.size w wr ∧ Hid (rising ((xs.map (fun p : Tri => (p.1, p.2.1))).take k) = true) ∧ Hid ((xs.take k).all (fun p : Tri => fits13 p.2.2) = true)) (fun i _ => xs.length - (intOf i).toNat)
  case atStart => exact ⟨0, by omega, rfl, Below.refl _ _, by simp [Hid, rising], by simp [Hid]⟩
  case round =>
    obtain ⟨k, hk, rfl, LW, HR, HQ⟩ := hrel
    by_cases hlt : k < xs.length
    · have hm : k < (xs.map (fun p : Tri => (p.1, p.2.1))).length := by simpa using hlt
      obtain ⟨b, off, ha, C1⟩ := rec_at len_pos (by decide) (HAt.out.keep LW) hlt
      have HQN := Lib.hid (fun h => all_next (p := (fun p : Tri => fits13 p.2.2)) hlt HQ.out h)
      have HQB := Lib.hid (fun h => all_no (p := (fun p : Tri => fits13 p.2.2)) hlt h)
      cases k with
      | zero =>
        have HRN : Hid (rising ((xs.map (fun p : Tri => (p.1, p.2.1))).take 1) = true) := rising_one
        clear HR HQ hm
        generalize xs[0] = x at *
        obtain ⟨x0, x1, x2⟩ := x
        have c0 := C1 0 _ rfl
        have c1 := C1 1 _ rfl
        have c2 := C1 2 _ rfl
        clear C1
        simp only [Nat.zero_mul, Nat.zero_add, Nat.add_zero] at c0 c1 c2
        rw [ha]
        go_upto_region 4 with fail
        have XA := Box.new wr 63 #[.int .i64 x0, .int .i64 x1, .int .i64 x2]
        have LB := LW.alloc LW.size (.cells #[.int .i64 x0, .int .i64 x1, .int .i64 x2] 63)
        clear c0 c1 c2 ha LW
        generalize wr.alloc (.cells #[.int .i64 x0, .int .i64 x1, .int .i64 x2] 63) = w3 at *
        have HX := Lib.hid XA
        have HL := Lib.hid LB
        clear XA LB
        obtain ⟨g, hg⟩ : ∃ g, g = wr.heap.size := ⟨_, rfl⟩
        rw [← hg] at HX ⊢
        clear hg
        have e0 : w3.cell? ⟨g, 0, none⟩ = some (.int .i64 x0) := HX.out.cell 0
        have e1 : w3.cell? ⟨g, 1, none⟩ = some (.int .i64 x1) := HX.out.cell 1
        have e2 : w3.cell? ⟨g, 2, none⟩ = some (.int .i64 x2) := HX.out.cell 2
        cases hf : fits13 x2 with
        | false =>
          have HF := Lib.hid (HQB.out hf)
          have CF := Lib.hid (fun W => rfits13_calls x2 W)
          rw [hf] at CF
          clear HQN HQB hf
          go_wp2_with (go_at_call 98; refine (CF.out _).mono ?_; rintro e w4 ⟨rfl, rfl⟩)
          go_ret
          exact ⟨ret_bool (by rw [HF.out, Bool.and_false]), HL.out⟩
        | true =>
        have HF := Lib.hid (HQN.out hf)
        have CF := Lib.hid (fun W => rfits13_calls x2 W)
        rw [hf] at CF
        clear HQN HQB hf
        go_upto_region 6 with (go_at_call 98; refine (CF.out _).mono ?_; rintro e w4 ⟨rfl, rfl⟩)
        clear e0 e1 e2
        have X00 := And.intro (box_drew0 HX.out) HL.out.drew
        refine kept_region (fun W => W.cell? ⟨g, 0, none⟩ = some (.int .i64 x0) ∧ W.cell? ⟨g, 1, none⟩ = some (.int .i64 x1) ∧ W.cell? ⟨g, 2, none⟩ = some (.int .i64 x2) ∧ (Box W g 63 #[.int .i64 x0, .int .i64 x1, .int .i64 x2] ∧ Below w.heap.size w W)) (by kernel_rfl) (by kernel_rfl) ⟨X00.1.cell 0, X00.1.cell 1, X00.1.cell 2, X00⟩ ?_
        clear X00
        repeat first
          | (refine' kept_go _ _ (fun W hW => _) _; rotate_left; (focus (go_simp; done)); (refine ⟨?_⟩; obtain ⟨k1, k2, k3, X9⟩ := hW; go_simp; first | done | (with_reducible rfl)); simp only [Act.put, List.setIfInBounds_toArray, List.set_cons_zero, List.set_cons_succ])
          | (refine kept_skip ?_ ?_; (focus (first | (go_simp; done) | kernel_rfl)); simp only [Act.put, List.setIfInBounds_toArray, List.set_cons_zero, List.set_cons_succ])
        refine kept_end ?_
        rintro w4 ⟨k1, k2, k3, X9⟩
        clear k1 k2 k3
        go_wp2_with fail
        go_roundw
        case rel => exact ⟨1, by omega, by go_num, X9.2, HRN, HF⟩
        case measure => simp [intOf]; omega
      | succ j =>
        have hjl : j < xs.length := by omega
        have hw1 : IntKind.i64.wrap (j : Int) = j := IntWalk.i64_in _ (by omega)
        have HRN : Hid (LedM.ahead ((fun p : Tri => (p.1, p.2.1)) xs[j]) ((fun p : Tri => (p.1, p.2.1)) xs[j + 1]) → rising ((xs.map (fun p : Tri => (p.1, p.2.1))).take (j + 1 + 1)) = true) := fun h => rising_next (by simpa using hlt) HR.out (by simpa using h)
        have HRB : Hid (¬ LedM.ahead ((fun p : Tri => (p.1, p.2.1)) xs[j]) ((fun p : Tri => (p.1, p.2.1)) xs[j + 1]) → rising (xs.map (fun p : Tri => (p.1, p.2.1))) = false) := fun h => rising_no (k := j) (by simpa using hlt) (by simpa using h)
        clear HR HQ hm
        obtain ⟨y, hy⟩ : ∃ y, xs[j] = y := ⟨_, rfl⟩
        rw [hy] at HRN HRB
        have HYE := Lib.hid hy
        clear hy
        generalize xs[j + 1] = x at *
        obtain ⟨y0, y1, y2⟩ := y
        obtain ⟨x0, x1, x2⟩ := x
        simp only at HRN HRB
        have c0 := C1 0 _ rfl
        have c1 := C1 1 _ rfl
        have c2 := C1 2 _ rfl
        clear C1
        simp only [← Nat.add_assoc, Nat.add_zero] at c0 c1 c2
        rw [ha]
        go_upto_region 4 with fail
        have XA := Box.new wr 63 #[.int .i64 x0, .int .i64 x1, .int .i64 x2]
        have LB := LW.alloc LW.size (.cells #[.int .i64 x0, .int .i64 x1, .int .i64 x2] 63)
        have hat3 := (HAt.out.keep LW).keep ((Below.refl wr.heap.size wr).alloc (Nat.le_refl _) (.cells #[.int .i64 x0, .int .i64 x1, .int .i64 x2] 63))
        obtain ⟨b2, off2, ha2, C2⟩ := rec_at len_pos (by decide) hat3 (show j < xs.length by omega)
        rw [ha] at ha2
        cases ha2
        rw [HYE.out] at C2
        have d0 := C2 0 _ rfl
        have d1 := C2 1 _ rfl
        clear C2 hat3
        simp only [← Nat.add_assoc, Nat.add_zero] at d0 d1
        clear c0 c1 c2 ha LW
        generalize wr.alloc (.cells #[.int .i64 x0, .int .i64 x1, .int .i64 x2] 63) = w3 at *
        have HX := Lib.hid XA
        have HL := Lib.hid LB
        clear XA LB
        obtain ⟨g, hg⟩ : ∃ g, g = wr.heap.size := ⟨_, rfl⟩
        rw [← hg] at HX ⊢
        clear hg
        have e0 : w3.cell? ⟨g, 0, none⟩ = some (.int .i64 x0) := HX.out.cell 0
        have e1 : w3.cell? ⟨g, 1, none⟩ = some (.int .i64 x1) := HX.out.cell 1
        have e2 : w3.cell? ⟨g, 2, none⟩ = some (.int .i64 x2) := HX.out.cell 2
        have HD0 := Lib.hid d0
        have HD1 := Lib.hid d1
        clear d0 d1
        cases hf : fits13 x2 with
        | false =>
          have HF := Lib.hid (HQB.out hf)
          have CF := Lib.hid (fun W => rfits13_calls x2 W)
          rw [hf] at CF
          clear HQN HQB hf
          go_wp2_with (go_at_call 98; refine (CF.out _).mono ?_; rintro e w4 ⟨rfl, rfl⟩)
          go_ret
          exact ⟨ret_bool (by rw [HF.out, Bool.and_false]), HL.out⟩
        | true =>
        have HF := Lib.hid (HQN.out hf)
        have CF := Lib.hid (fun W => rfits13_calls x2 W)
        rw [hf] at CF
        clear HQN HQB hf
        have HBL : Hid (b < w3.heap.size) := World.block_lt_of_cell? _ _ HD0.out
        rcases Int.lt_trichotomy y0 x0 with hlt1 | heq1 | hgt1
        · have HRX := Lib.hid (HRN.out (.inl hlt1))
          have hb1 : decide (y0 > x0) = false := by simp; omega
          have hb2 : (y0 == x0) = false := by simp; omega
          have hn1 : ¬ x0 < y0 := by omega
          clear HRN HRB
          go_upto_region 6 with (go_at_call 98; refine (CF.out _).mono ?_; rintro e w4 ⟨rfl, rfl⟩)
          clear e0 e1 e2
          have X00 := And.intro (box_drew0 HX.out) (And.intro HL.out.drew (Below.refl w3.heap.size w3).drew)
          refine kept_region (fun W => W.cell? ⟨g, 0, none⟩ = some (.int .i64 x0) ∧ W.cell? ⟨g, 1, none⟩ = some (.int .i64 x1) ∧ W.cell? ⟨g, 2, none⟩ = some (.int .i64 x2) ∧ W.cell? ⟨b, off + j * 3, none⟩ = some (.int .i64 y0) ∧ W.cell? ⟨b, off + j * 3 + 1, none⟩ = some (.int .i64 y1) ∧ (Box W g 63 #[.int .i64 x0, .int .i64 x1, .int .i64 x2] ∧ Below w.heap.size w W ∧ Below w3.heap.size w3 W)) (by kernel_rfl) (by kernel_rfl) ⟨X00.1.cell 0, X00.1.cell 1, X00.1.cell 2, (Below.cell X00.2.2 HBL.out).trans HD0.out, (Below.cell X00.2.2 HBL.out).trans HD1.out, X00⟩ ?_
          clear X00
          repeat first
            | (refine' kept_go _ _ (fun W hW => _) _; rotate_left; (focus (go_simp; done)); (refine ⟨?_⟩; obtain ⟨k1, k2, k3, k4, k5, X9⟩ := hW; go_simp; first | done | (with_reducible rfl)); simp only [Act.put, List.setIfInBounds_toArray, List.set_cons_zero, List.set_cons_succ])
            | (refine kept_skip ?_ ?_; (focus (first | (go_simp; done) | kernel_rfl)); simp only [Act.put, List.setIfInBounds_toArray, List.set_cons_zero, List.set_cons_succ])
          refine kept_end ?_
          rintro w4 ⟨k1, k2, k3, k4, k5, X9⟩
          clear k1 k2 k3 k4 k5
          go_wp2_with fail
          go_roundw
          case rel => exact ⟨j + 1 + 1, by omega, by go_num, X9.2.1, HRX, HF⟩
          case measure => simp [intOf]; omega
        · have hn0 : ¬ x0 < y0 := by omega
          have heqb : (y0 == x0) = true := by simpa using heq1
          by_cases h2 : y1 < x1
          · have HRX := Lib.hid (HRN.out (.inr ⟨heq1, h2⟩))
            have hn1 : ¬ x1 ≤ y1 := by omega
            clear HRN HRB heq1
            go_upto_region 6 with (go_at_call 98; refine (CF.out _).mono ?_; rintro e w4 ⟨rfl, rfl⟩)
            clear e0 e1 e2
            have X00 := And.intro (box_drew0 HX.out) (And.intro HL.out.drew (Below.refl w3.heap.size w3).drew)
            refine kept_region (fun W => W.cell? ⟨g, 0, none⟩ = some (.int .i64 x0) ∧ W.cell? ⟨g, 1, none⟩ = some (.int .i64 x1) ∧ W.cell? ⟨g, 2, none⟩ = some (.int .i64 x2) ∧ W.cell? ⟨b, off + j * 3, none⟩ = some (.int .i64 y0) ∧ W.cell? ⟨b, off + j * 3 + 1, none⟩ = some (.int .i64 y1) ∧ (Box W g 63 #[.int .i64 x0, .int .i64 x1, .int .i64 x2] ∧ Below w.heap.size w W ∧ Below w3.heap.size w3 W)) (by kernel_rfl) (by kernel_rfl) ⟨X00.1.cell 0, X00.1.cell 1, X00.1.cell 2, (Below.cell X00.2.2 HBL.out).trans HD0.out, (Below.cell X00.2.2 HBL.out).trans HD1.out, X00⟩ ?_
            clear X00
            repeat first
              | (refine' kept_go _ _ (fun W hW => _) _; rotate_left; (focus (go_simp; done)); (refine ⟨?_⟩; obtain ⟨k1, k2, k3, k4, k5, X9⟩ := hW; go_simp; first | done | (with_reducible rfl)); simp only [Act.put, List.setIfInBounds_toArray, List.set_cons_zero, List.set_cons_succ])
              | (refine kept_skip ?_ ?_; (focus (first | (go_simp; done) | kernel_rfl)); simp only [Act.put, List.setIfInBounds_toArray, List.set_cons_zero, List.set_cons_succ])
            refine kept_end ?_
            rintro w4 ⟨k1, k2, k3, k4, k5, X9⟩
            clear k1 k2 k3 k4 k5
            go_wp2_with fail
            go_roundw
            case rel => exact ⟨j + 1 + 1, by omega, by go_num, X9.2.1, HRX, HF⟩
            case measure => simp [intOf]; omega
          · have HRX := Lib.hid (HRB.out (fun h => by unfold LedM.ahead at h; simp only at h; omega))
            have hn1 : x1 ≤ y1 := by omega
            clear HRN HRB heq1
            go_upto_region 6 with (go_at_call 98; refine (CF.out _).mono ?_; rintro e w4 ⟨rfl, rfl⟩)
            clear e0 e1 e2
            have X00 := And.intro (box_drew0 HX.out) (And.intro HL.out.drew (Below.refl w3.heap.size w3).drew)
            refine kept_region (fun W => W.cell? ⟨g, 0, none⟩ = some (.int .i64 x0) ∧ W.cell? ⟨g, 1, none⟩ = some (.int .i64 x1) ∧ W.cell? ⟨g, 2, none⟩ = some (.int .i64 x2) ∧ W.cell? ⟨b, off + j * 3, none⟩ = some (.int .i64 y0) ∧ W.cell? ⟨b, off + j * 3 + 1, none⟩ = some (.int .i64 y1) ∧ (Box W g 63 #[.int .i64 x0, .int .i64 x1, .int .i64 x2] ∧ Below w.heap.size w W ∧ Below w3.heap.size w3 W)) (by kernel_rfl) (by kernel_rfl) ⟨X00.1.cell 0, X00.1.cell 1, X00.1.cell 2, (Below.cell X00.2.2 HBL.out).trans HD0.out, (Below.cell X00.2.2 HBL.out).trans HD1.out, X00⟩ ?_
            clear X00
            repeat first
              | (refine' kept_go _ _ (fun W hW => _) _; rotate_left; (focus (go_simp; done)); (refine ⟨?_⟩; obtain ⟨k1, k2, k3, k4, k5, X9⟩ := hW; go_simp; first | done | (with_reducible rfl)); simp only [Act.put, List.setIfInBounds_toArray, List.set_cons_zero, List.set_cons_succ])
              | (refine kept_skip ?_ ?_; (focus (first | (go_simp; done) | kernel_rfl)); simp only [Act.put, List.setIfInBounds_toArray, List.set_cons_zero, List.set_cons_succ])
            refine kept_end ?_
            rintro w4 ⟨k1, k2, k3, k4, k5, X9⟩
            clear k1 k2 k3 k4 k5
            go_wp2_with fail
            go_ret
            exact ⟨ret_bool (by rw [HRX.out, Bool.false_and]), X9.2.1⟩
        · have HRX := Lib.hid (HRB.out (fun h => by unfold LedM.ahead at h; simp only at h; omega))
          have hn1 : x0 < y0 := by omega
          clear HRN HRB
          go_upto_region 6 with (go_at_call 98; refine (CF.out _).mono ?_; rintro e w4 ⟨rfl, rfl⟩)
          clear e0 e1 e2
          have X00 := And.intro (box_drew0 HX.out) (And.intro HL.out.drew (Below.refl w3.heap.size w3).drew)
          refine kept_region (fun W => W.cell? ⟨g, 0, none⟩ = some (.int .i64 x0) ∧ W.cell? ⟨g, 1, none⟩ = some (.int .i64 x1) ∧ W.cell? ⟨g, 2, none⟩ = some (.int .i64 x2) ∧ W.cell? ⟨b, off + j * 3, none⟩ = some (.int .i64 y0) ∧ W.cell? ⟨b, off + j * 3 + 1, none⟩ = some (.int .i64 y1) ∧ (Box W g 63 #[.int .i64 x0, .int .i64 x1, .int .i64 x2] ∧ Below w.heap.size w W ∧ Below w3.heap.size w3 W)) (by kernel_rfl) (by kernel_rfl) ⟨X00.1.cell 0, X00.1.cell 1, X00.1.cell 2, (Below.cell X00.2.2 HBL.out).trans HD0.out, (Below.cell X00.2.2 HBL.out).trans HD1.out, X00⟩ ?_
          clear X00
          repeat first
            | (refine' kept_go _ _ (fun W hW => _) _; rotate_left; (focus (go_simp; done)); (refine ⟨?_⟩; obtain ⟨k1, k2, k3, k4, k5, X9⟩ := hW; go_simp; first | done | (with_reducible rfl)); simp only [Act.put, List.setIfInBounds_toArray, List.set_cons_zero, List.set_cons_succ])
            | (refine kept_skip ?_ ?_; (focus (first | (go_simp; done) | kernel_rfl)); simp only [Act.put, List.setIfInBounds_toArray, List.set_cons_zero, List.set_cons_succ])
          refine kept_end ?_
          rintro w4 ⟨k1, k2, k3, k4, k5, X9⟩
          clear k1 k2 k3 k4 k5
          go_wp2_with fail
          go_ret
          exact ⟨ret_bool (by rw [HRX.out, Bool.false_and]), X9.2.1⟩
    · obtain rfl : k = xs.length := by omega
      have HF1 := HR.out
      have HF2 := HQ.out
      rw [List.take_of_length_le (by simp)] at HF1
      rw [List.take_length] at HF2
      have HE1 := Lib.hid HF1
      have HE2 := Lib.hid HF2
      clear HF1 HF2 HR HQ
      go_wp2_with fail
      go_ret
      exact ⟨ret_bool (by rw [HE1.out, HE2.out]; rfl), LW⟩
set_option maxHeartbeats 4000000 in
set_option maxRecDepth 100000 in
theorem orderRise_calls (a : Option Addr) (cap : Nat) (xs : List Ord) (w : World) (hbig : xs.length ≤ 1000000) (hat : At w a (xs.flatMap ordC)) :
    Calls Tryz.prog 86 #[.slice a xs.length cap] w fun e w' => e = .returned (.bool (rising (xs.map (fun o : Ord => (o.acct, o.id))) && xs.all (fun o : Ord => fits13 o.qty))) ∧ Below w.heap.size w w' := by
  have HAt := Lib.hid hat
  clear hat
  go_enter Tryz.func86, Tryz.ntmps86
  go_wp2_with fail
  go_loopw [7] (fun i wr => ∃ k : Nat, k ≤ xs.length ∧ i = .int .i64 (k : Int) ∧ Below w.heap.size w wr ∧ Hid (rising ((xs.map (fun o : Ord => (o.acct, o.id))).take k) = true) ∧ Hid ((xs.take k).all (fun o : Ord => fits13 o.qty) = true)) (fun i _ => xs.length - (intOf i).toNat)
  case atStart => exact ⟨0, by omega, rfl, Below.refl _ _, by simp [Hid, rising], by simp [Hid]⟩
  case round =>
    obtain ⟨k, hk, rfl, LW, HR, HQ⟩ := hrel
    by_cases hlt : k < xs.length
    · have hm : k < (xs.map (fun o : Ord => (o.acct, o.id))).length := by simpa using hlt
      obtain ⟨b, off, ha, C1⟩ := rec_at len_ord (by decide) (HAt.out.keep LW) hlt
      have HQN := Lib.hid (fun h => all_next (p := (fun o : Ord => fits13 o.qty)) hlt HQ.out h)
      have HQB := Lib.hid (fun h => all_no (p := (fun o : Ord => fits13 o.qty)) hlt h)
      cases k with
      | zero =>
        have HRN : Hid (rising ((xs.map (fun o : Ord => (o.acct, o.id))).take 1) = true) := rising_one
        clear HR HQ hm
        generalize xs[0] = x at *
        obtain ⟨x0, x1, x2, x3, x4⟩ := x
        have c0 := C1 0 _ rfl
        have c1 := C1 1 _ rfl
        have c2 := C1 2 _ rfl
        have c3 := C1 3 _ rfl
        have c4 := C1 4 _ rfl
        clear C1
        simp only [Nat.zero_mul, Nat.zero_add, Nat.add_zero] at c0 c1 c2 c3 c4
        rw [ha]
        go_upto_region 4 with fail
        have XA := Box.new wr 65 #[.int .i64 x0, .int .i64 x1, .int .i64 x2, .int .i64 x3, .int .i64 x4]
        have LB := LW.alloc LW.size (.cells #[.int .i64 x0, .int .i64 x1, .int .i64 x2, .int .i64 x3, .int .i64 x4] 65)
        clear c0 c1 c2 c3 c4 ha LW
        generalize wr.alloc (.cells #[.int .i64 x0, .int .i64 x1, .int .i64 x2, .int .i64 x3, .int .i64 x4] 65) = w3 at *
        have HX := Lib.hid XA
        have HL := Lib.hid LB
        clear XA LB
        obtain ⟨g, hg⟩ : ∃ g, g = wr.heap.size := ⟨_, rfl⟩
        rw [← hg] at HX ⊢
        clear hg
        have e0 : w3.cell? ⟨g, 0, none⟩ = some (.int .i64 x0) := HX.out.cell 0
        have e1 : w3.cell? ⟨g, 1, none⟩ = some (.int .i64 x1) := HX.out.cell 1
        have e2 : w3.cell? ⟨g, 2, none⟩ = some (.int .i64 x2) := HX.out.cell 2
        have e3 : w3.cell? ⟨g, 3, none⟩ = some (.int .i64 x3) := HX.out.cell 3
        have e4 : w3.cell? ⟨g, 4, none⟩ = some (.int .i64 x4) := HX.out.cell 4
        cases hf : fits13 x3 with
        | false =>
          have HF := Lib.hid (HQB.out hf)
          have CF := Lib.hid (fun W => rfits13_calls x3 W)
          rw [hf] at CF
          clear HQN HQB hf
          go_wp2_with (go_at_call 98; refine (CF.out _).mono ?_; rintro e w4 ⟨rfl, rfl⟩)
          go_ret
          exact ⟨ret_bool (by rw [HF.out, Bool.and_false]), HL.out⟩
        | true =>
        have HF := Lib.hid (HQN.out hf)
        have CF := Lib.hid (fun W => rfits13_calls x3 W)
        rw [hf] at CF
        clear HQN HQB hf
        go_upto_region 6 with (go_at_call 98; refine (CF.out _).mono ?_; rintro e w4 ⟨rfl, rfl⟩)
        clear e0 e1 e2 e3 e4
        have X00 := And.intro (box_drew0 HX.out) HL.out.drew
        refine kept_region (fun W => W.cell? ⟨g, 0, none⟩ = some (.int .i64 x0) ∧ W.cell? ⟨g, 1, none⟩ = some (.int .i64 x1) ∧ W.cell? ⟨g, 2, none⟩ = some (.int .i64 x2) ∧ W.cell? ⟨g, 3, none⟩ = some (.int .i64 x3) ∧ W.cell? ⟨g, 4, none⟩ = some (.int .i64 x4) ∧ (Box W g 65 #[.int .i64 x0, .int .i64 x1, .int .i64 x2, .int .i64 x3, .int .i64 x4] ∧ Below w.heap.size w W)) (by kernel_rfl) (by kernel_rfl) ⟨X00.1.cell 0, X00.1.cell 1, X00.1.cell 2, X00.1.cell 3, X00.1.cell 4, X00⟩ ?_
        clear X00
        repeat first
          | (refine' kept_go _ _ (fun W hW => _) _; rotate_left; (focus (go_simp; done)); (refine ⟨?_⟩; obtain ⟨k1, k2, k3, k4, k5, X9⟩ := hW; go_simp; first | done | (with_reducible rfl)); simp only [Act.put, List.setIfInBounds_toArray, List.set_cons_zero, List.set_cons_succ])
          | (refine kept_skip ?_ ?_; (focus (first | (go_simp; done) | kernel_rfl)); simp only [Act.put, List.setIfInBounds_toArray, List.set_cons_zero, List.set_cons_succ])
        refine kept_end ?_
        rintro w4 ⟨k1, k2, k3, k4, k5, X9⟩
        clear k1 k2 k3 k4 k5
        go_wp2_with fail
        go_roundw
        case rel => exact ⟨1, by omega, by go_num, X9.2, HRN, HF⟩
        case measure => simp [intOf]; omega
      | succ j =>
        have hjl : j < xs.length := by omega
        have hw1 : IntKind.i64.wrap (j : Int) = j := IntWalk.i64_in _ (by omega)
        have HRN : Hid (LedM.ahead ((fun o : Ord => (o.acct, o.id)) xs[j]) ((fun o : Ord => (o.acct, o.id)) xs[j + 1]) → rising ((xs.map (fun o : Ord => (o.acct, o.id))).take (j + 1 + 1)) = true) := fun h => rising_next (by simpa using hlt) HR.out (by simpa using h)
        have HRB : Hid (¬ LedM.ahead ((fun o : Ord => (o.acct, o.id)) xs[j]) ((fun o : Ord => (o.acct, o.id)) xs[j + 1]) → rising (xs.map (fun o : Ord => (o.acct, o.id))) = false) := fun h => rising_no (k := j) (by simpa using hlt) (by simpa using h)
        clear HR HQ hm
        obtain ⟨y, hy⟩ : ∃ y, xs[j] = y := ⟨_, rfl⟩
        rw [hy] at HRN HRB
        have HYE := Lib.hid hy
        clear hy
        generalize xs[j + 1] = x at *
        obtain ⟨y0, y1, y2, y3, y4⟩ := y
        obtain ⟨x0, x1, x2, x3, x4⟩ := x
        simp only at HRN HRB
        have c0 := C1 0 _ rfl
        have c1 := C1 1 _ rfl
        have c2 := C1 2 _ rfl
        have c3 := C1 3 _ rfl
        have c4 := C1 4 _ rfl
        clear C1
        simp only [← Nat.add_assoc, Nat.add_zero] at c0 c1 c2 c3 c4
        rw [ha]
        go_upto_region 4 with fail
        have XA := Box.new wr 65 #[.int .i64 x0, .int .i64 x1, .int .i64 x2, .int .i64 x3, .int .i64 x4]
        have LB := LW.alloc LW.size (.cells #[.int .i64 x0, .int .i64 x1, .int .i64 x2, .int .i64 x3, .int .i64 x4] 65)
        have hat3 := (HAt.out.keep LW).keep ((Below.refl wr.heap.size wr).alloc (Nat.le_refl _) (.cells #[.int .i64 x0, .int .i64 x1, .int .i64 x2, .int .i64 x3, .int .i64 x4] 65))
        obtain ⟨b2, off2, ha2, C2⟩ := rec_at len_ord (by decide) hat3 (show j < xs.length by omega)
        rw [ha] at ha2
        cases ha2
        rw [HYE.out] at C2
        have d0 := C2 0 _ rfl
        have d1 := C2 1 _ rfl
        clear C2 hat3
        simp only [← Nat.add_assoc, Nat.add_zero] at d0 d1
        clear c0 c1 c2 c3 c4 ha LW
        generalize wr.alloc (.cells #[.int .i64 x0, .int .i64 x1, .int .i64 x2, .int .i64 x3, .int .i64 x4] 65) = w3 at *
        have HX := Lib.hid XA
        have HL := Lib.hid LB
        clear XA LB
        obtain ⟨g, hg⟩ : ∃ g, g = wr.heap.size := ⟨_, rfl⟩
        rw [← hg] at HX ⊢
        clear hg
        have e0 : w3.cell? ⟨g, 0, none⟩ = some (.int .i64 x0) := HX.out.cell 0
        have e1 : w3.cell? ⟨g, 1, none⟩ = some (.int .i64 x1) := HX.out.cell 1
        have e2 : w3.cell? ⟨g, 2, none⟩ = some (.int .i64 x2) := HX.out.cell 2
        have e3 : w3.cell? ⟨g, 3, none⟩ = some (.int .i64 x3) := HX.out.cell 3
        have e4 : w3.cell? ⟨g, 4, none⟩ = some (.int .i64 x4) := HX.out.cell 4
        have HD0 := Lib.hid d0
        have HD1 := Lib.hid d1
        clear d0 d1
        cases hf : fits13 x3 with
        | false =>
          have HF := Lib.hid (HQB.out hf)
          have CF := Lib.hid (fun W => rfits13_calls x3 W)
          rw [hf] at CF
          clear HQN HQB hf
          go_wp2_with (go_at_call 98; refine (CF.out _).mono ?_; rintro e w4 ⟨rfl, rfl⟩)
          go_ret
          exact ⟨ret_bool (by rw [HF.out, Bool.and_false]), HL.out⟩
        | true =>
        have HF := Lib.hid (HQN.out hf)
        have CF := Lib.hid (fun W => rfits13_calls x3 W)
        rw [hf] at CF
        clear HQN HQB hf
        have HBL : Hid (b < w3.heap.size) := World.block_lt_of_cell? _ _ HD0.out
        rcases Int.lt_trichotomy y0 x0 with hlt1 | heq1 | hgt1
        · have HRX := Lib.hid (HRN.out (.inl hlt1))
          have hb1 : decide (y0 > x0) = false := by simp; omega
          have hb2 : (y0 == x0) = false := by simp; omega
          have hn1 : ¬ x0 < y0 := by omega
          clear HRN HRB
          go_upto_region 6 with (go_at_call 98; refine (CF.out _).mono ?_; rintro e w4 ⟨rfl, rfl⟩)
          clear e0 e1 e2 e3 e4
          have X00 := And.intro (box_drew0 HX.out) (And.intro HL.out.drew (Below.refl w3.heap.size w3).drew)
          refine kept_region (fun W => W.cell? ⟨g, 0, none⟩ = some (.int .i64 x0) ∧ W.cell? ⟨g, 1, none⟩ = some (.int .i64 x1) ∧ W.cell? ⟨g, 2, none⟩ = some (.int .i64 x2) ∧ W.cell? ⟨g, 3, none⟩ = some (.int .i64 x3) ∧ W.cell? ⟨g, 4, none⟩ = some (.int .i64 x4) ∧ W.cell? ⟨b, off + j * 5, none⟩ = some (.int .i64 y0) ∧ W.cell? ⟨b, off + j * 5 + 1, none⟩ = some (.int .i64 y1) ∧ (Box W g 65 #[.int .i64 x0, .int .i64 x1, .int .i64 x2, .int .i64 x3, .int .i64 x4] ∧ Below w.heap.size w W ∧ Below w3.heap.size w3 W)) (by kernel_rfl) (by kernel_rfl) ⟨X00.1.cell 0, X00.1.cell 1, X00.1.cell 2, X00.1.cell 3, X00.1.cell 4, (Below.cell X00.2.2 HBL.out).trans HD0.out, (Below.cell X00.2.2 HBL.out).trans HD1.out, X00⟩ ?_
          clear X00
          repeat first
            | (refine' kept_go _ _ (fun W hW => _) _; rotate_left; (focus (go_simp; done)); (refine ⟨?_⟩; obtain ⟨k1, k2, k3, k4, k5, k6, k7, X9⟩ := hW; go_simp; first | done | (with_reducible rfl)); simp only [Act.put, List.setIfInBounds_toArray, List.set_cons_zero, List.set_cons_succ])
            | (refine kept_skip ?_ ?_; (focus (first | (go_simp; done) | kernel_rfl)); simp only [Act.put, List.setIfInBounds_toArray, List.set_cons_zero, List.set_cons_succ])
          refine kept_end ?_
          rintro w4 ⟨k1, k2, k3, k4, k5, k6, k7, X9⟩
          clear k1 k2 k3 k4 k5 k6 k7
          go_wp2_with fail
          go_roundw
          case rel => exact ⟨j + 1 + 1, by omega, by go_num, X9.2.1, HRX, HF⟩
          case measure => simp [intOf]; omega
        · have hn0 : ¬ x0 < y0 := by omega
          have heqb : (y0 == x0) = true := by simpa using heq1
          by_cases h2 : y1 < x1
          · have HRX := Lib.hid (HRN.out (.inr ⟨heq1, h2⟩))
            have hn1 : ¬ x1 ≤ y1 := by omega
            clear HRN HRB heq1
            go_upto_region 6 with (go_at_call 98; refine (CF.out _).mono ?_; rintro e w4 ⟨rfl, rfl⟩)
            clear e0 e1 e2 e3 e4
            have X00 := And.intro (box_drew0 HX.out) (And.intro HL.out.drew (Below.refl w3.heap.size w3).drew)
            refine kept_region (fun W => W.cell? ⟨g, 0, none⟩ = some (.int .i64 x0) ∧ W.cell? ⟨g, 1, none⟩ = some (.int .i64 x1) ∧ W.cell? ⟨g, 2, none⟩ = some (.int .i64 x2) ∧ W.cell? ⟨g, 3, none⟩ = some (.int .i64 x3) ∧ W.cell? ⟨g, 4, none⟩ = some (.int .i64 x4) ∧ W.cell? ⟨b, off + j * 5, none⟩ = some (.int .i64 y0) ∧ W.cell? ⟨b, off + j * 5 + 1, none⟩ = some (.int .i64 y1) ∧ (Box W g 65 #[.int .i64 x0, .int .i64 x1, .int .i64 x2, .int .i64 x3, .int .i64 x4] ∧ Below w.heap.size w W ∧ Below w3.heap.size w3 W)) (by kernel_rfl) (by kernel_rfl) ⟨X00.1.cell 0, X00.1.cell 1, X00.1.cell 2, X00.1.cell 3, X00.1.cell 4, (Below.cell X00.2.2 HBL.out).trans HD0.out, (Below.cell X00.2.2 HBL.out).trans HD1.out, X00⟩ ?_
            clear X00
            repeat first
              | (refine' kept_go _ _ (fun W hW => _) _; rotate_left; (focus (go_simp; done)); (refine ⟨?_⟩; obtain ⟨k1, k2, k3, k4, k5, k6, k7, X9⟩ := hW; go_simp; first | done | (with_reducible rfl)); simp only [Act.put, List.setIfInBounds_toArray, List.set_cons_zero, List.set_cons_succ])
              | (refine kept_skip ?_ ?_; (focus (first | (go_simp; done) | kernel_rfl)); simp only [Act.put, List.setIfInBounds_toArray, List.set_cons_zero, List.set_cons_succ])
            refine kept_end ?_
            rintro w4 ⟨k1, k2, k3, k4, k5, k6, k7, X9⟩
            clear k1 k2 k3 k4 k5 k6 k7
            go_wp2_with fail
            go_roundw
            case rel => exact ⟨j + 1 + 1, by omega, by go_num, X9.2.1, HRX, HF⟩
            case measure => simp [intOf]; omega
          · have HRX := Lib.hid (HRB.out (fun h => by unfold LedM.ahead at h; simp only at h; omega))
            have hn1 : x1 ≤ y1 := by omega
            clear HRN HRB heq1
            go_upto_region 6 with (go_at_call 98; refine (CF.out _).mono ?_; rintro e w4 ⟨rfl, rfl⟩)
            clear e0 e1 e2 e3 e4
            have X00 := And.intro (box_drew0 HX.out) (And.intro HL.out.drew (Below.refl w3.heap.size w3).drew)
            refine kept_region (fun W => W.cell? ⟨g, 0, none⟩ = some (.int .i64 x0) ∧ W.cell? ⟨g, 1, none⟩ = some (.int .i64 x1) ∧ W.cell? ⟨g, 2, none⟩ = some (.int .i64 x2) ∧ W.cell? ⟨g, 3, none⟩ = some (.int .i64 x3) ∧ W.cell? ⟨g, 4, none⟩ = some (.int .i64 x4) ∧ W.cell? ⟨b, off + j * 5, none⟩ = some (.int .i64 y0) ∧ W.cell? ⟨b, off + j * 5 + 1, none⟩ = some (.int .i64 y1) ∧ (Box W g 65 #[.int .i64 x0, .int .i64 x1, .int .i64 x2, .int .i64 x3, .int .i64 x4] ∧ Below w.heap.size w W ∧ Below w3.heap.size w3 W)) (by kernel_rfl) (by kernel_rfl) ⟨X00.1.cell 0, X00.1.cell 1, X00.1.cell 2, X00.1.cell 3, X00.1.cell 4, (Below.cell X00.2.2 HBL.out).trans HD0.out, (Below.cell X00.2.2 HBL.out).trans HD1.out, X00⟩ ?_
            clear X00
            repeat first
              | (refine' kept_go _ _ (fun W hW => _) _; rotate_left; (focus (go_simp; done)); (refine ⟨?_⟩; obtain ⟨k1, k2, k3, k4, k5, k6, k7, X9⟩ := hW; go_simp; first | done | (with_reducible rfl)); simp only [Act.put, List.setIfInBounds_toArray, List.set_cons_zero, List.set_cons_succ])
              | (refine kept_skip ?_ ?_; (focus (first | (go_simp; done) | kernel_rfl)); simp only [Act.put, List.setIfInBounds_toArray, List.set_cons_zero, List.set_cons_succ])
            refine kept_end ?_
            rintro w4 ⟨k1, k2, k3, k4, k5, k6, k7, X9⟩
            clear k1 k2 k3 k4 k5 k6 k7
            go_wp2_with fail
            go_ret
            exact ⟨ret_bool (by rw [HRX.out, Bool.false_and]), X9.2.1⟩
        · have HRX := Lib.hid (HRB.out (fun h => by unfold LedM.ahead at h; simp only at h; omega))
          have hn1 : x0 < y0 := by omega
          clear HRN HRB
          go_upto_region 6 with (go_at_call 98; refine (CF.out _).mono ?_; rintro e w4 ⟨rfl, rfl⟩)
          clear e0 e1 e2 e3 e4
          have X00 := And.intro (box_drew0 HX.out) (And.intro HL.out.drew (Below.refl w3.heap.size w3).drew)
          refine kept_region (fun W => W.cell? ⟨g, 0, none⟩ = some (.int .i64 x0) ∧ W.cell? ⟨g, 1, none⟩ = some (.int .i64 x1) ∧ W.cell? ⟨g, 2, none⟩ = some (.int .i64 x2) ∧ W.cell? ⟨g, 3, none⟩ = some (.int .i64 x3) ∧ W.cell? ⟨g, 4, none⟩ = some (.int .i64 x4) ∧ W.cell? ⟨b, off + j * 5, none⟩ = some (.int .i64 y0) ∧ W.cell? ⟨b, off + j * 5 + 1, none⟩ = some (.int .i64 y1) ∧ (Box W g 65 #[.int .i64 x0, .int .i64 x1, .int .i64 x2, .int .i64 x3, .int .i64 x4] ∧ Below w.heap.size w W ∧ Below w3.heap.size w3 W)) (by kernel_rfl) (by kernel_rfl) ⟨X00.1.cell 0, X00.1.cell 1, X00.1.cell 2, X00.1.cell 3, X00.1.cell 4, (Below.cell X00.2.2 HBL.out).trans HD0.out, (Below.cell X00.2.2 HBL.out).trans HD1.out, X00⟩ ?_
          clear X00
          repeat first
            | (refine' kept_go _ _ (fun W hW => _) _; rotate_left; (focus (go_simp; done)); (refine ⟨?_⟩; obtain ⟨k1, k2, k3, k4, k5, k6, k7, X9⟩ := hW; go_simp; first | done | (with_reducible rfl)); simp only [Act.put, List.setIfInBounds_toArray, List.set_cons_zero, List.set_cons_succ])
            | (refine kept_skip ?_ ?_; (focus (first | (go_simp; done) | kernel_rfl)); simp only [Act.put, List.setIfInBounds_toArray, List.set_cons_zero, List.set_cons_succ])
          refine kept_end ?_
          rintro w4 ⟨k1, k2, k3, k4, k5, k6, k7, X9⟩
          clear k1 k2 k3 k4 k5 k6 k7
          go_wp2_with fail
          go_ret
          exact ⟨ret_bool (by rw [HRX.out, Bool.false_and]), X9.2.1⟩
    · obtain rfl : k = xs.length := by omega
      have HF1 := HR.out
      have HF2 := HQ.out
      rw [List.take_of_length_le (by simp)] at HF1
      rw [List.take_length] at HF2
      have HE1 := Lib.hid HF1
      have HE2 := Lib.hid HF2
      clear HF1 HF2 HR HQ
      go_wp2_with fail
      go_ret
      exact ⟨ret_bool (by rw [HE1.out, HE2.out]; rfl), LW⟩
theorem rposs_fit {xs : List Tri} {n m : Int} (h : xs.all (fun p : Tri => fits13 p.2.2) = false) : xs.all (posOk n m) = false := by
  rw [List.all_eq_false] at h ⊢
  obtain ⟨x, hx, h2⟩ := h
  refine ⟨x, hx, fun h3 => h2 ?_⟩
  have := (posOk_iff n m x.1 x.2.1 x.2.2).1 h3
  exact decide_eq_true (by omega)

set_option maxHeartbeats 4000000 in
set_option maxRecDepth 100000 in
theorem rposs_calls (a : Option Addr) (cap : Nat) (xs : List Tri) (n m : Int) (w : World) (hbig : xs.length ≤ 1000000) (hat : At w a (xs.flatMap triC)) :
    Calls Tryz.prog 56 #[.slice a xs.length cap, .int .i64 n, .int .i64 m] w fun e w' => e = .returned (.bool (possF xs n m)) ∧ Below w.heap.size w w' := by
  have HAt := Lib.hid hat
  have C := Lib.hid (posRise_calls a cap xs w hbig hat)
  have HE : Hid (possF xs n m = (decide (xs.length ≤ 64) && rising (xs.map (fun p : Tri => (p.1, p.2.1))) && xs.all (posOk n m))) := rfl
  have HNF := Lib.hid (rposs_fit (xs := xs) (n := n) (m := m))
  clear hat
  generalize possF xs n m = q at HE ⊢
  go_enter Tryz.func56, Tryz.ntmps56
  by_cases hl : 64 < xs.length
  · have HF : Hid (q = false) := by unfold Hid; rw [HE.out, decide_eq_false (by omega)]; rfl
    clear HE HNF
    go_wp2_with fail
    go_ret
    exact ⟨ret_bool HF.out.symm, Below.refl _ _⟩
  have HL : Hid (decide (xs.length ≤ 64) = true) := decide_eq_true (by omega)
  cases hr : rising (xs.map (fun p : Tri => (p.1, p.2.1))) && xs.all (fun p : Tri => fits13 p.2.2) with
  | false =>
    rw [hr] at C
    have HF : Hid (q = false) := by
      unfold Hid
      rw [HE.out, HL.out, Bool.true_and]
      rcases Bool.and_eq_false_iff.1 hr with h | h
      · rw [h]; rfl
      · rw [HNF.out h, Bool.and_false]
    clear HE HNF hr
    go_wp2_with (go_at_call 85; refine C.out.mono ?_; rintro e w2 ⟨rfl, b2⟩)
    go_ret
    exact ⟨ret_bool HF.out.symm, b2⟩
  | true =>
  rw [hr] at C
  rw [Bool.and_eq_true] at hr
  have HFits := Lib.hid hr.2
  have HQ : Hid (q = xs.all (posOk n m)) := by unfold Hid; rw [HE.out, HL.out, hr.1]; rfl
  clear HE HNF hr HL
  go_wp2_with (go_at_call 85; refine C.out.mono ?_; rintro e w2 ⟨rfl, b2⟩)
  go_loopw [19] (fun i wr => ∃ k : Nat, k ≤ xs.length ∧ i = .int .i64 (k : Int) ∧ Below w.heap.size w wr ∧ Hid ((xs.take k).all (posOk n m) = true)) (fun i _ => xs.length - (intOf i).toNat)
  case atStart => exact ⟨0, by omega, rfl, b2, by simp [Hid]⟩
  case round =>
    have HQ0 := HQ
    clear HQ
    obtain ⟨k, hk, rfl, LW, HQ⟩ := hrel
    by_cases hlt : k < xs.length
    · obtain ⟨b, off, ha, C1⟩ := rec_at len_pos (by decide) (HAt.out.keep LW) hlt
      have HQN := Lib.hid (fun h => all_next (p := (posOk n m)) hlt HQ.out h)
      have HQB := Lib.hid (fun h => all_no (p := (posOk n m)) hlt h)
      have HFit := Lib.hid (List.all_eq_true.1 HFits.out _ (List.getElem_mem hlt))
      clear HQ
      generalize xs[k] = x at *
      obtain ⟨x0, x1, x2⟩ := x
      have hfit := of_decide_eq_true HFit.out
      simp only at hfit
      have HOK := Lib.hid (posOk_iff n m x0 x1 x2)
      have c0 := C1 0 _ rfl
      have c1 := C1 1 _ rfl
      have c2 := C1 2 _ rfl
      clear C1 HFit
      simp only [← Nat.add_assoc, Nat.add_zero] at c0 c1 c2
      rw [ha]
      go_upto_region 6 with fail
      have XA := Box.new wr 63 #[.int .i64 x0, .int .i64 x1, .int .i64 x2]
      have LB := Lib.hid (LW.alloc LW.size (.cells #[.int .i64 x0, .int .i64 x1, .int .i64 x2] 63))
      clear c0 c1 c2 ha LW
      generalize wr.alloc (.cells #[.int .i64 x0, .int .i64 x1, .int .i64 x2] 63) = w3 at *
      obtain ⟨g, hg⟩ : ∃ g, g = wr.heap.size := ⟨_, rfl⟩
      rw [← hg] at XA ⊢
      clear hg
      have e0 : w3.cell? ⟨g, 0, none⟩ = some (.int .i64 x0) := XA.cell 0
      have e1 : w3.cell? ⟨g, 1, none⟩ = some (.int .i64 x1) := XA.cell 1
      have e2 : w3.cell? ⟨g, 2, none⟩ = some (.int .i64 x2) := XA.cell 2
      clear XA
      by_cases h0 : x0 < 2
      · have hno : (posOk n m) ⟨x0, x1, x2⟩ = false := by
          rw [Bool.eq_false_iff]
          intro h
          have := HOK.out.1 h
          omega
        have HF := Lib.hid (HQB.out hno)
        clear HQN HQB hno HOK hfit
        go_wp2_with fail
        go_ret
        exact ⟨ret_bool (by rw [HQ0.out, HF.out]), LB.out⟩
      by_cases h1 : n ≤ x0
      · have hno : (posOk n m) ⟨x0, x1, x2⟩ = false := by
          rw [Bool.eq_false_iff]
          intro h
          have := HOK.out.1 h
          omega
        have HF := Lib.hid (HQB.out hno)
        clear HQN HQB hno HOK hfit
        go_wp2_with fail
        go_ret
        exact ⟨ret_bool (by rw [HQ0.out, HF.out]), LB.out⟩
      by_cases h2 : x1 < 0
      · have hno : (posOk n m) ⟨x0, x1, x2⟩ = false := by
          rw [Bool.eq_false_iff]
          intro h
          have := HOK.out.1 h
          omega
        have HF := Lib.hid (HQB.out hno)
        clear HQN HQB hno HOK hfit
        go_wp2_with fail
        go_ret
        exact ⟨ret_bool (by rw [HQ0.out, HF.out]), LB.out⟩
      by_cases h3 : m ≤ x1
      · have hno : (posOk n m) ⟨x0, x1, x2⟩ = false := by
          rw [Bool.eq_false_iff]
          intro h
          have := HOK.out.1 h
          omega
        have HF := Lib.hid (HQB.out hno)
        clear HQN HQB hno HOK hfit
        go_wp2_with fail
        go_ret
        exact ⟨ret_bool (by rw [HQ0.out, HF.out]), LB.out⟩
      by_cases h4 : x2 = 0
      · have hno : (posOk n m) ⟨x0, x1, x2⟩ = false := by
          rw [Bool.eq_false_iff]
          intro h
          have := HOK.out.1 h
          omega
        have HF := Lib.hid (HQB.out hno)
        clear HQN HQB hno HOK hfit
        go_wp2_with fail
        go_ret
        exact ⟨ret_bool (by rw [HQ0.out, HF.out]), LB.out⟩
      have hyes : (posOk n m) ⟨x0, x1, x2⟩ = true := HOK.out.2 (by omega)
      have HF := Lib.hid (HQN.out hyes)
      clear HQN HQB hyes HOK hfit
      go_wp2_with fail
      go_roundw
      case rel => exact ⟨k + 1, by omega, by go_num, LB.out, HF⟩
      case measure => simp [intOf]; omega
    · obtain rfl : k = xs.length := by omega
      have HF1 := HQ.out
      rw [List.take_length] at HF1
      have HE := Lib.hid HF1
      clear HF1 HQ
      go_wp2_with fail
      go_ret
      exact ⟨ret_bool (by rw [HQ0.out, HE.out]), LW⟩
theorem rord_fit {xs : List Ord} {n m : Int} (h : xs.all (fun o : Ord => fits13 o.qty) = false) : xs.all (ordOk n m) = false := by
  rw [List.all_eq_false] at h ⊢
  obtain ⟨x, hx, h2⟩ := h
  refine ⟨x, hx, fun h3 => h2 ?_⟩
  have := (ordOk_iff n m x.acct x.id x.instr x.qty x.price).1 h3
  exact decide_eq_true (by omega)

set_option maxHeartbeats 4000000 in
set_option maxRecDepth 100000 in
theorem rorders_calls (a : Option Addr) (cap : Nat) (xs : List Ord) (n m : Int) (w : World) (hbig : xs.length ≤ 1000000) (hat : At w a (xs.flatMap ordC)) :
    Calls Tryz.prog 57 #[.slice a xs.length cap, .int .i64 n, .int .i64 m] w fun e w' => e = .returned (.bool (ordersF xs n m)) ∧ Below w.heap.size w w' := by
  have HAt := Lib.hid hat
  have C := Lib.hid (orderRise_calls a cap xs w hbig hat)
  have HE : Hid (ordersF xs n m = (decide (xs.length ≤ 32) && rising (xs.map (fun o : Ord => (o.acct, o.id))) && xs.all (ordOk n m))) := rfl
  have HNF := Lib.hid (rord_fit (xs := xs) (n := n) (m := m))
  clear hat
  generalize ordersF xs n m = q at HE ⊢
  go_enter Tryz.func57, Tryz.ntmps57
  by_cases hl : 32 < xs.length
  · have HF : Hid (q = false) := by unfold Hid; rw [HE.out, decide_eq_false (by omega)]; rfl
    clear HE HNF
    go_wp2_with fail
    go_ret
    exact ⟨ret_bool HF.out.symm, Below.refl _ _⟩
  have HL : Hid (decide (xs.length ≤ 32) = true) := decide_eq_true (by omega)
  cases hr : rising (xs.map (fun o : Ord => (o.acct, o.id))) && xs.all (fun o : Ord => fits13 o.qty) with
  | false =>
    rw [hr] at C
    have HF : Hid (q = false) := by
      unfold Hid
      rw [HE.out, HL.out, Bool.true_and]
      rcases Bool.and_eq_false_iff.1 hr with h | h
      · rw [h]; rfl
      · rw [HNF.out h, Bool.and_false]
    clear HE HNF hr
    go_wp2_with (go_at_call 86; refine C.out.mono ?_; rintro e w2 ⟨rfl, b2⟩)
    go_ret
    exact ⟨ret_bool HF.out.symm, b2⟩
  | true =>
  rw [hr] at C
  rw [Bool.and_eq_true] at hr
  have HFits := Lib.hid hr.2
  have HQ : Hid (q = xs.all (ordOk n m)) := by unfold Hid; rw [HE.out, HL.out, hr.1]; rfl
  clear HE HNF hr HL
  go_wp2_with (go_at_call 86; refine C.out.mono ?_; rintro e w2 ⟨rfl, b2⟩)
  go_loopw [19] (fun i wr => ∃ k : Nat, k ≤ xs.length ∧ i = .int .i64 (k : Int) ∧ Below w.heap.size w wr ∧ Hid ((xs.take k).all (ordOk n m) = true)) (fun i _ => xs.length - (intOf i).toNat)
  case atStart => exact ⟨0, by omega, rfl, b2, by simp [Hid]⟩
  case round =>
    have HQ0 := HQ
    clear HQ
    obtain ⟨k, hk, rfl, LW, HQ⟩ := hrel
    by_cases hlt : k < xs.length
    · obtain ⟨b, off, ha, C1⟩ := rec_at len_ord (by decide) (HAt.out.keep LW) hlt
      have HQN := Lib.hid (fun h => all_next (p := (ordOk n m)) hlt HQ.out h)
      have HQB := Lib.hid (fun h => all_no (p := (ordOk n m)) hlt h)
      have HFit := Lib.hid (List.all_eq_true.1 HFits.out _ (List.getElem_mem hlt))
      clear HQ
      generalize xs[k] = x at *
      obtain ⟨x0, x1, x2, x3, x4⟩ := x
      have hfit := of_decide_eq_true HFit.out
      simp only at hfit
      have HOK := Lib.hid (ordOk_iff n m x0 x1 x2 x3 x4)
      have c0 := C1 0 _ rfl
      have c1 := C1 1 _ rfl
      have c2 := C1 2 _ rfl
      have c3 := C1 3 _ rfl
      have c4 := C1 4 _ rfl
      clear C1 HFit
      simp only [← Nat.add_assoc, Nat.add_zero] at c0 c1 c2 c3 c4
      rw [ha]
      go_upto_region 6 with fail
      have XA := Box.new wr 65 #[.int .i64 x0, .int .i64 x1, .int .i64 x2, .int .i64 x3, .int .i64 x4]
      have LB := Lib.hid (LW.alloc LW.size (.cells #[.int .i64 x0, .int .i64 x1, .int .i64 x2, .int .i64 x3, .int .i64 x4] 65))
      clear c0 c1 c2 c3 c4 ha LW
      generalize wr.alloc (.cells #[.int .i64 x0, .int .i64 x1, .int .i64 x2, .int .i64 x3, .int .i64 x4] 65) = w3 at *
      obtain ⟨g, hg⟩ : ∃ g, g = wr.heap.size := ⟨_, rfl⟩
      rw [← hg] at XA ⊢
      clear hg
      have e0 : w3.cell? ⟨g, 0, none⟩ = some (.int .i64 x0) := XA.cell 0
      have e1 : w3.cell? ⟨g, 1, none⟩ = some (.int .i64 x1) := XA.cell 1
      have e2 : w3.cell? ⟨g, 2, none⟩ = some (.int .i64 x2) := XA.cell 2
      have e3 : w3.cell? ⟨g, 3, none⟩ = some (.int .i64 x3) := XA.cell 3
      have e4 : w3.cell? ⟨g, 4, none⟩ = some (.int .i64 x4) := XA.cell 4
      clear XA
      by_cases h0 : x0 < 2
      · have hno : (ordOk n m) ⟨x0, x1, x2, x3, x4⟩ = false := by
          rw [Bool.eq_false_iff]
          intro h
          have := HOK.out.1 h
          omega
        have HF := Lib.hid (HQB.out hno)
        clear HQN HQB hno HOK hfit
        go_wp2_with fail
        go_ret
        exact ⟨ret_bool (by rw [HQ0.out, HF.out]), LB.out⟩
      by_cases h1 : n ≤ x0
      · have hno : (ordOk n m) ⟨x0, x1, x2, x3, x4⟩ = false := by
          rw [Bool.eq_false_iff]
          intro h
          have := HOK.out.1 h
          omega
        have HF := Lib.hid (HQB.out hno)
        clear HQN HQB hno HOK hfit
        go_wp2_with fail
        go_ret
        exact ⟨ret_bool (by rw [HQ0.out, HF.out]), LB.out⟩
      by_cases h2 : x1 < 1
      · have hno : (ordOk n m) ⟨x0, x1, x2, x3, x4⟩ = false := by
          rw [Bool.eq_false_iff]
          intro h
          have := HOK.out.1 h
          omega
        have HF := Lib.hid (HQB.out hno)
        clear HQN HQB hno HOK hfit
        go_wp2_with fail
        go_ret
        exact ⟨ret_bool (by rw [HQ0.out, HF.out]), LB.out⟩
      by_cases h3 : 1099511627776 < x1
      · have hno : (ordOk n m) ⟨x0, x1, x2, x3, x4⟩ = false := by
          rw [Bool.eq_false_iff]
          intro h
          have := HOK.out.1 h
          omega
        have HF := Lib.hid (HQB.out hno)
        clear HQN HQB hno HOK hfit
        go_wp2_with fail
        go_ret
        exact ⟨ret_bool (by rw [HQ0.out, HF.out]), LB.out⟩
      by_cases h4 : x2 < 0
      · have hno : (ordOk n m) ⟨x0, x1, x2, x3, x4⟩ = false := by
          rw [Bool.eq_false_iff]
          intro h
          have := HOK.out.1 h
          omega
        have HF := Lib.hid (HQB.out hno)
        clear HQN HQB hno HOK hfit
        go_wp2_with fail
        go_ret
        exact ⟨ret_bool (by rw [HQ0.out, HF.out]), LB.out⟩
      by_cases h5 : m ≤ x2
      · have hno : (ordOk n m) ⟨x0, x1, x2, x3, x4⟩ = false := by
          rw [Bool.eq_false_iff]
          intro h
          have := HOK.out.1 h
          omega
        have HF := Lib.hid (HQB.out hno)
        clear HQN HQB hno HOK hfit
        go_wp2_with fail
        go_ret
        exact ⟨ret_bool (by rw [HQ0.out, HF.out]), LB.out⟩
      by_cases h6 : x3 = 0
      · have hno : (ordOk n m) ⟨x0, x1, x2, x3, x4⟩ = false := by
          rw [Bool.eq_false_iff]
          intro h
          have := HOK.out.1 h
          omega
        have HF := Lib.hid (HQB.out hno)
        clear HQN HQB hno HOK hfit
        go_wp2_with fail
        go_ret
        exact ⟨ret_bool (by rw [HQ0.out, HF.out]), LB.out⟩
      by_cases h7 : x4 < 1
      · have hno : (ordOk n m) ⟨x0, x1, x2, x3, x4⟩ = false := by
          rw [Bool.eq_false_iff]
          intro h
          have := HOK.out.1 h
          omega
        have HF := Lib.hid (HQB.out hno)
        clear HQN HQB hno HOK hfit
        go_wp2_with fail
        go_ret
        exact ⟨ret_bool (by rw [HQ0.out, HF.out]), LB.out⟩
      by_cases h8 : 100000000000000 < x4
      · have hno : (ordOk n m) ⟨x0, x1, x2, x3, x4⟩ = false := by
          rw [Bool.eq_false_iff]
          intro h
          have := HOK.out.1 h
          omega
        have HF := Lib.hid (HQB.out hno)
        clear HQN HQB hno HOK hfit
        go_wp2_with fail
        go_ret
        exact ⟨ret_bool (by rw [HQ0.out, HF.out]), LB.out⟩
      have hyes : (ordOk n m) ⟨x0, x1, x2, x3, x4⟩ = true := HOK.out.2 (by omega)
      have HF := Lib.hid (HQN.out hyes)
      clear HQN HQB hyes HOK hfit
      go_wp2_with fail
      go_roundw
      case rel => exact ⟨k + 1, by omega, by go_num, LB.out, HF⟩
      case measure => simp [intOf]; omega
    · obtain rfl : k = xs.length := by omega
      have HF1 := HQ.out
      rw [List.take_length] at HF1
      have HE := Lib.hid HF1
      clear HF1 HQ
      go_wp2_with fail
      go_ret
      exact ⟨ret_bool (by rw [HQ0.out, HE.out]), LW⟩
end Go.Proofs.YtocjfjikkdpfdaaGreatDoor.LedW
