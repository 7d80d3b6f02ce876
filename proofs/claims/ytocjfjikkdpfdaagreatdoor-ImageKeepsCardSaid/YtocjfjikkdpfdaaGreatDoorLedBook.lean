/- Positions, orders and reservations that can be: the program's answers. Written by genbook.py. -/
import Derived.Test.YtocjfjikkdpfdaaGreatDoorLedCmp
set_option linter.unusedSimpArgs false
set_option linter.unusedVariables false
namespace Go.Proofs.YtocjfjikkdpfdaaGreatDoor.LedW
open Go.RowKit Go.Proofs.YtocjfjikkdpfdaaGreatDoor.Bas Go.Proofs.YtocjfjikkdpfdaaGreatDoor.LedM

/-- the keys rise as far as this -/
def RiseK {α : Type} (key : α → Int × Int) (xs : List α) (k : Nat) : Prop := ∀ i, (h : i + 1 < xs.length) → i < k → LedM.ahead (key xs[i]) (key xs[i + 1])
theorem RiseK.zero {α : Type} (key : α → Int × Int) (xs : List α) : RiseK key xs 0 := fun _ _ h => absurd h (Nat.not_lt_zero _)
theorem RiseK.succ {α : Type} {key : α → Int × Int} {xs : List α} {k : Nat} (h : RiseK key xs k) (hk : k + 1 < xs.length) (ha : LedM.ahead (key xs[k]) (key xs[k + 1])) : RiseK key xs (k + 1) := fun i hi hlt => by
  rcases Nat.lt_succ_iff_lt_or_eq.1 hlt with h1 | rfl
  · exact h i hi h1
  · exact ha
theorem RiseK.all {α : Type} {key : α → Int × Int} {xs : List α} {k : Nat} (h : RiseK key xs k) (hk : xs.length ≤ k + 1) : rising (xs.map key) = true := by
  rw [rising_iff]
  intro i hi
  have hi' : i + 1 < xs.length := by simpa using hi
  have := h i hi' (by omega)
  simpa using this
theorem RiseK.fail {α : Type} {key : α → Int × Int} {xs : List α} {k : Nat} (hk : k + 1 < xs.length) (ha : ¬ LedM.ahead (key xs[k]) (key xs[k + 1])) : rising (xs.map key) = false := by
  rw [Bool.eq_false_iff]
  intro h
  rw [rising_iff] at h
  have h1 := h k (by simpa using hk)
  rw [List.getElem_map, List.getElem_map] at h1
  exact ha h1
theorem any_not {α : Type} (p : α → Bool) (xs : List α) : (xs.any fun x => !p x) = !xs.all p := by rw [List.not_all_eq_any_not]
/-- two captured numbers -/
def Two2 (g1 g2 : Nat) (n k : Int) (W : World) : Prop := W.cell? ⟨g1, 0, none⟩ = some (.int .i64 n) ∧ W.cell? ⟨g2, 0, none⟩ = some (.int .i64 k)
theorem two_keeps (g1 g2 : Nat) (n k : Int) : Keeps (Two2 g1 g2 n k) := fun A _ h b =>
  ⟨(b.cell (World.block_lt_of_cell? A _ h.1)).trans h.1, (b.cell (World.block_lt_of_cell? A _ h.2)).trans h.2⟩

set_option maxHeartbeats 1000000 in
set_option maxRecDepth 100000 in
theorem rise_pos (a : Option Addr) (cap : Nat) (xs : List Tri) (w : World) (hl : xs.length ≤ 1000000) (hat : At w a (xs.flatMap triC)) :
    Calls Tryz.prog 74 #[.slice a xs.length cap, .func (.func 75) #[] #[]] w fun e w' => e = .returned (.bool (rising (xs.map (fun p => (p.1, p.2.1))))) ∧ Below w.heap.size w w' := by
  go_enter Tryz.func74, Tryz.ntmps74
  go_wp2_with fail
  go_loopw [5] (fun i wr => ∃ k : Nat, k ≤ xs.length ∧ i = .int .i64 ((k : Int) + 1) ∧ At wr a (xs.flatMap triC) ∧ Below w.heap.size w wr ∧ Hid (RiseK (fun p => (p.1, p.2.1)) xs k)) (fun i _ => xs.length + 1 - (intOf i).toNat)
  case atStart => exact ⟨0, by omega, rfl, hat, Below.refl _ _, RiseK.zero _ _⟩
  case round =>
    clear hat
    obtain ⟨k, hk, rfl, hA, hB, H⟩ := hrel
    have HA := Lib.hid hA
    have HB := Lib.hid hB
    clear hB
    by_cases hlt : k + 1 < xs.length
    · obtain ⟨b, off, rfl, C1⟩ := rec_at len_pos (by decide) hA (k := k) (by omega)
      obtain ⟨_, _, h0, C2⟩ := rec_at len_pos (by decide) hA hlt
      cases h0
      have HS := Lib.hid (fun h => H.out.succ hlt h)
      have HF := Lib.hid (fun h => RiseK.fail (key := (fun p => (p.1, p.2.1))) hlt h)
      clear hA H
      generalize xs[k] = x at *
      generalize xs[k + 1] = y at *
      obtain ⟨x0, x1, x2⟩ := x
      obtain ⟨y0, y1, y2⟩ := y
      have c0 := C1 0 _ rfl
      have c1 := C1 1 _ rfl
      have c2 := C1 2 _ rfl
      have d0 := C2 0 _ rfl
      have d1 := C2 1 _ rfl
      have d2 := C2 2 _ rfl
      clear C1 C2
      simp only [← Nat.add_assoc, Nat.add_zero] at c0 c1 c2 d0 d1 d2
      have hw1 : IntKind.i64.wrap (k : Int) = k := by rw [IntWalk.i64_in _ (by omega)]
      have hi1 : 0 ≤ (k : Int) ∧ (k : Int) < (xs.length : Int) := by omega
      have hi2 : 0 ≤ (k : Int) + 1 ∧ (k : Int) + 1 < (xs.length : Int) := by omega
      have hn2 : ((k : Int) + 1).toNat = k + 1 := by omega
      go_upto_region 4 with fail
      refine wp_region_still_tail 10 (by kernel_rfl) (by kernel_rfl) ?_
      simp only [List.take_succ_cons, List.take_zero, List.drop_succ_cons, List.drop_zero]
      repeat still_step
      refine wpStill_nil ?_
      change wpList _ _ _ _ _ wr.drew
      have HB1 := Lib.hid HB.out.drew
      have HA1 : Hid (At wr.drew (some ⟨b, off, none⟩) (xs.flatMap triC)) := HA.out
      clear HB HA c0 c1 c2 d0 d1 d2 hw1 hi1 hi2 hn2
      generalize wr.drew = w1 at *
      by_cases hah : LedM.ahead (x0, x1) (y0, y1)
      · have HX := Lib.hid (HS.out hah)
        have hr : byF x0 x1 y0 y1 < 0 := (byF_ahead _ _ _ _).2 hah
        have hr2 : ¬ 0 ≤ byF x0 x1 y0 y1 := by omega
        have C := Lib.hid (fun W => byPos_calls x0 x1 x2 y0 y1 y2 W)
        clear HS HF hah
        generalize byF x0 x1 y0 y1 = r at *
        go_wp2_with (go_at_call 75; refine (C.out _).mono ?_; rintro e w2 ⟨rfl, b2⟩)
        go_roundw
        case rel => exact ⟨k + 1, by omega, by go_num, HA1.out.keep b2, HB1.out.trans (b2.mono HB1.out.size), HX⟩
        case measure => simp [intOf]; omega
      · have HX := Lib.hid (HF.out hah)
        have hr2 : 0 ≤ byF x0 x1 y0 y1 := by
          have hh : ¬ byF x0 x1 y0 y1 < 0 := fun h => hah ((byF_ahead x0 x1 y0 y1).1 h)
          omega
        have C := Lib.hid (fun W => byPos_calls x0 x1 x2 y0 y1 y2 W)
        clear HS HF hah
        generalize byF x0 x1 y0 y1 = r at *
        go_wp2_with (go_at_call 75; refine (C.out _).mono ?_; rintro e w2 ⟨rfl, b2⟩)
        go_ret
        exact ⟨ret_bool HX.out.symm, HB1.out.trans (b2.mono HB1.out.size)⟩
    · have hr : Hid (rising (xs.map (fun p => (p.1, p.2.1))) = true) := H.out.all (by omega)
      clear H hA
      go_wp2_with fail
      go_ret
      exact ⟨ret_bool hr.out.symm, HB.out⟩

set_option maxHeartbeats 1000000 in
set_option maxRecDepth 100000 in
theorem rise_ord (a : Option Addr) (cap : Nat) (xs : List Ord) (w : World) (hl : xs.length ≤ 1000000) (hat : At w a (xs.flatMap ordC)) :
    Calls Tryz.prog 78 #[.slice a xs.length cap, .func (.func 79) #[] #[]] w fun e w' => e = .returned (.bool (rising (xs.map (fun o => (o.acct, o.id))))) ∧ Below w.heap.size w w' := by
  go_enter Tryz.func78, Tryz.ntmps78
  go_wp2_with fail
  go_loopw [5] (fun i wr => ∃ k : Nat, k ≤ xs.length ∧ i = .int .i64 ((k : Int) + 1) ∧ At wr a (xs.flatMap ordC) ∧ Below w.heap.size w wr ∧ Hid (RiseK (fun o => (o.acct, o.id)) xs k)) (fun i _ => xs.length + 1 - (intOf i).toNat)
  case atStart => exact ⟨0, by omega, rfl, hat, Below.refl _ _, RiseK.zero _ _⟩
  case round =>
    clear hat
    obtain ⟨k, hk, rfl, hA, hB, H⟩ := hrel
    have HA := Lib.hid hA
    have HB := Lib.hid hB
    clear hB
    by_cases hlt : k + 1 < xs.length
    · obtain ⟨b, off, rfl, C1⟩ := rec_at len_ord (by decide) hA (k := k) (by omega)
      obtain ⟨_, _, h0, C2⟩ := rec_at len_ord (by decide) hA hlt
      cases h0
      have HS := Lib.hid (fun h => H.out.succ hlt h)
      have HF := Lib.hid (fun h => RiseK.fail (key := (fun o => (o.acct, o.id))) hlt h)
      clear hA H
      generalize xs[k] = x at *
      generalize xs[k + 1] = y at *
      obtain ⟨x0, x1, x2, x3, x4⟩ := x
      obtain ⟨y0, y1, y2, y3, y4⟩ := y
      have c0 := C1 0 _ rfl
      have c1 := C1 1 _ rfl
      have c2 := C1 2 _ rfl
      have c3 := C1 3 _ rfl
      have c4 := C1 4 _ rfl
      have d0 := C2 0 _ rfl
      have d1 := C2 1 _ rfl
      have d2 := C2 2 _ rfl
      have d3 := C2 3 _ rfl
      have d4 := C2 4 _ rfl
      clear C1 C2
      simp only [← Nat.add_assoc, Nat.add_zero] at c0 c1 c2 c3 c4 d0 d1 d2 d3 d4
      have hw1 : IntKind.i64.wrap (k : Int) = k := by rw [IntWalk.i64_in _ (by omega)]
      have hi1 : 0 ≤ (k : Int) ∧ (k : Int) < (xs.length : Int) := by omega
      have hi2 : 0 ≤ (k : Int) + 1 ∧ (k : Int) + 1 < (xs.length : Int) := by omega
      have hn2 : ((k : Int) + 1).toNat = k + 1 := by omega
      go_upto_region 4 with fail
      refine wp_region_still_tail 10 (by kernel_rfl) (by kernel_rfl) ?_
      simp only [List.take_succ_cons, List.take_zero, List.drop_succ_cons, List.drop_zero]
      repeat still_step
      refine wpStill_nil ?_
      change wpList _ _ _ _ _ wr.drew
      have HB1 := Lib.hid HB.out.drew
      have HA1 : Hid (At wr.drew (some ⟨b, off, none⟩) (xs.flatMap ordC)) := HA.out
      clear HB HA c0 c1 c2 c3 c4 d0 d1 d2 d3 d4 hw1 hi1 hi2 hn2
      generalize wr.drew = w1 at *
      by_cases hah : LedM.ahead (x0, x1) (y0, y1)
      · have HX := Lib.hid (HS.out hah)
        have hr : byF x0 x1 y0 y1 < 0 := (byF_ahead _ _ _ _).2 hah
        have hr2 : ¬ 0 ≤ byF x0 x1 y0 y1 := by omega
        have C := Lib.hid (fun W => byOrder_calls x0 x1 x2 x3 x4 y0 y1 y2 y3 y4 W)
        clear HS HF hah
        generalize byF x0 x1 y0 y1 = r at *
        go_wp2_with (go_at_call 79; refine (C.out _).mono ?_; rintro e w2 ⟨rfl, b2⟩)
        go_roundw
        case rel => exact ⟨k + 1, by omega, by go_num, HA1.out.keep b2, HB1.out.trans (b2.mono HB1.out.size), HX⟩
        case measure => simp [intOf]; omega
      · have HX := Lib.hid (HF.out hah)
        have hr2 : 0 ≤ byF x0 x1 y0 y1 := by
          have hh : ¬ byF x0 x1 y0 y1 < 0 := fun h => hah ((byF_ahead x0 x1 y0 y1).1 h)
          omega
        have C := Lib.hid (fun W => byOrder_calls x0 x1 x2 x3 x4 y0 y1 y2 y3 y4 W)
        clear HS HF hah
        generalize byF x0 x1 y0 y1 = r at *
        go_wp2_with (go_at_call 79; refine (C.out _).mono ?_; rintro e w2 ⟨rfl, b2⟩)
        go_ret
        exact ⟨ret_bool HX.out.symm, HB1.out.trans (b2.mono HB1.out.size)⟩
    · have hr : Hid (rising (xs.map (fun o => (o.acct, o.id))) = true) := H.out.all (by omega)
      clear H hA
      go_wp2_with fail
      go_ret
      exact ⟨ret_bool hr.out.symm, HB.out⟩

theorem bad_pos_calls (x0 x1 x2 n k : Int) (g1 g2 : Nat) (W : World) (h : Two2 g1 g2 n k W) :
    Calls Tryz.prog 71 #[.agg #[.int .i64 x0, .int .i64 x1, .int .i64 x2], .pointer (some ⟨g1, 0, none⟩), .pointer (some ⟨g2, 0, none⟩)] W fun e W' => e = .returned (.bool (!posOk n k (x0, x1, x2))) ∧ Below W.heap.size W W' := by
  obtain ⟨h1, h2⟩ := h
  have l1 := World.block_lt_of_cell? W _ h1
  have l2 := World.block_lt_of_cell? W _ h2
  have X := Box.new W 63 #[.int .i64 x0, .int .i64 x1, .int .i64 x2]
  have B := (Below.refl W.heap.size W).alloc (Nat.le_refl _) (.cells #[.int .i64 x0, .int .i64 x1, .int .i64 x2] 63)
  have e1 := (B.cell (p := ⟨g1, 0, none⟩) l1).trans h1
  have e2 := (B.cell (p := ⟨g2, 0, none⟩) l2).trans h2
  clear l1 l2 h1 h2
  go_enter Tryz.func71, Tryz.ntmps71
  go_upto_region 1 with fail
  generalize W.alloc (.cells #[.int .i64 x0, .int .i64 x1, .int .i64 x2] 63) = w0 at *
  have c0 := X.cell 0
  have c1 := X.cell 1
  have c2 := X.cell 2
  clear X
  go_wp2_with (first | (go_at_call 72; refine (trades_calls _ _ _).mono ?_; rintro e w' ⟨rfl, rfl⟩) | (go_at_call 73; refine (fits_calls13 _ _).mono ?_; rintro e w' ⟨rfl, rfl⟩))
  all_goals
    go_ret
    refine ⟨ret_bool ?_, B⟩
    clear c0 c1 c2 e1 e2
    rw [Bool.eq_iff_iff, Bool.not_eq_true', Bool.eq_false_iff, ne_eq, posOk_iff]
    simp_all
    try omega

theorem bad_ord_calls (x0 x1 x2 x3 x4 n k : Int) (g1 g2 : Nat) (W : World) (h : Two2 g1 g2 n k W) :
    Calls Tryz.prog 77 #[.agg #[.int .i64 x0, .int .i64 x1, .int .i64 x2, .int .i64 x3, .int .i64 x4], .pointer (some ⟨g1, 0, none⟩), .pointer (some ⟨g2, 0, none⟩)] W fun e W' => e = .returned (.bool (!ordOk n k ⟨x0, x1, x2, x3, x4⟩)) ∧ Below W.heap.size W W' := by
  obtain ⟨h1, h2⟩ := h
  have l1 := World.block_lt_of_cell? W _ h1
  have l2 := World.block_lt_of_cell? W _ h2
  have X := Box.new W 65 #[.int .i64 x0, .int .i64 x1, .int .i64 x2, .int .i64 x3, .int .i64 x4]
  have B := (Below.refl W.heap.size W).alloc (Nat.le_refl _) (.cells #[.int .i64 x0, .int .i64 x1, .int .i64 x2, .int .i64 x3, .int .i64 x4] 65)
  have e1 := (B.cell (p := ⟨g1, 0, none⟩) l1).trans h1
  have e2 := (B.cell (p := ⟨g2, 0, none⟩) l2).trans h2
  clear l1 l2 h1 h2
  go_enter Tryz.func77, Tryz.ntmps77
  go_upto_region 1 with fail
  generalize W.alloc (.cells #[.int .i64 x0, .int .i64 x1, .int .i64 x2, .int .i64 x3, .int .i64 x4] 65) = w0 at *
  have c0 := X.cell 0
  have c1 := X.cell 1
  have c2 := X.cell 2
  have c3 := X.cell 3
  have c4 := X.cell 4
  clear X
  go_wp2_with (first | (go_at_call 72; refine (trades_calls _ _ _).mono ?_; rintro e w' ⟨rfl, rfl⟩) | (go_at_call 73; refine (fits_calls13 _ _).mono ?_; rintro e w' ⟨rfl, rfl⟩))
  all_goals
    go_ret
    refine ⟨ret_bool ?_, B⟩
    clear c0 c1 c2 c3 c4 e1 e2
    rw [Bool.eq_iff_iff, Bool.not_eq_true', Bool.eq_false_iff, ne_eq, ordOk_iff]
    simp_all
    try omega

theorem asks_poss (g1 g2 : Nat) (n k : Int) (xs : List Tri) : Asks Tryz.prog 71 #[.pointer (some ⟨g1, 0, none⟩), .pointer (some ⟨g2, 0, none⟩)] posV (fun x => !posOk n k x) xs (Two2 g1 g2 n k) := fun x _ W h => bad_pos_calls x.1 x.2.1 x.2.2 n k g1 g2 W h
theorem poss_F (xs : List Tri) (n k : Int) (h : xs.length ≤ 64) : possF xs n k = (rising (xs.map (fun p => (p.1, p.2.1))) && !(xs.any fun x => !posOk n k x)) := by
  unfold possF
  rw [any_not, Bool.not_not, decide_eq_true h, Bool.true_and]
set_option maxHeartbeats 1000000 in
theorem poss_calls (a : Option Addr) (cap : Nat) (xs : List Tri) (n k : Int) (w : World) (hl : xs.length ≤ 1000000) (hat : At w a (xs.flatMap triC)) :
    Calls Tryz.prog 39 #[.slice a xs.length cap, .int .i64 n, .int .i64 k] w fun e w' => e = .returned (.bool (possF xs n k)) ∧ Below w.heap.size w w' := by
  have X1 := (Box.new w 3 #[.int .i64 n]).alloc (.cells #[.int .i64 k] 3)
  have X2 := Box.new (w.alloc (.cells #[.int .i64 n] 3)) 3 #[.int .i64 k]
  rw [World.size_alloc] at X2
  have B := ((Below.refl w.heap.size w).alloc (Nat.le_refl _) (.cells #[.int .i64 n] 3)).alloc (by simp) (.cells #[.int .i64 k] 3)
  have A := hat.below B hat.lt
  clear hat
  go_enter Tryz.func39, Tryz.ntmps39
  go_upto_region 1 with fail
  generalize (w.alloc (.cells #[.int .i64 n] 3)).alloc (.cells #[.int .i64 k] 3) = w0 at *
  have T := Lib.hid (show Two2 w.heap.size (w.heap.size + 1) n k w0 from ⟨X1.cell 0, X2.cell 0⟩)
  clear X1 X2
  by_cases h64 : xs.length ≤ 64
  · have C1 := Lib.hid (fun W h => rise_pos a cap xs W hl h)
    have C2 := Lib.hid (fun W h h2 => contains_poss a cap xs w.heap.size (w.heap.size + 1) _ _ W (by omega) h h2 (two_keeps _ _ _ _) (asks_poss _ _ n k xs))
    have HP := Lib.hid (poss_F xs n k h64)
    have HA := Lib.hid A
    have HB := Lib.hid B
    clear A B
    generalize rising (xs.map (fun p => (p.1, p.2.1))) = r1 at *
    generalize (xs.any fun x => !posOk n k x) = r2 at *
    have two := (two_keeps w.heap.size (w.heap.size + 1) n k)
    have HT := Lib.hid two
    clear two
    cases r1
    · go_wp2_with (first | (go_at_call 74; refine (C1.out _ HA.out).mono ?_; rintro e w2 ⟨rfl, b2⟩))
      go_ret
      exact ⟨ret_bool (by rw [HP.out]; rfl), HB.out.trans (b2.mono HB.out.size)⟩
    · go_wp2_with (first | (go_at_call 74; refine (C1.out _ HA.out).mono ?_; rintro e w2 ⟨rfl, b2⟩; have HB2 := Lib.hid (HB.out.trans (b2.mono HB.out.size)); have HA2 := Lib.hid (HA.out.keep b2); have T2 := Lib.hid (HT.out _ _ T.out b2)) | (go_at_call 76; refine (C2.out _ HA2.out T2.out).mono ?_; rintro e w3 ⟨rfl, b3⟩))
      go_ret
      exact ⟨ret_bool (by rw [HP.out]; simp), HB2.out.trans (b3.mono HB2.out.size)⟩
  · have HP : Hid (possF xs n k = false) := by unfold Hid possF; rw [decide_eq_false h64]; rfl
    clear A
    go_wp2_with fail
    go_ret
    exact ⟨ret_bool (by rw [HP.out]), B⟩

theorem asks_orders (g1 g2 : Nat) (n k : Int) (xs : List Ord) : Asks Tryz.prog 77 #[.pointer (some ⟨g1, 0, none⟩), .pointer (some ⟨g2, 0, none⟩)] ordV (fun x => !ordOk n k x) xs (Two2 g1 g2 n k) := fun x _ W h => bad_ord_calls x.acct x.id x.instr x.qty x.price n k g1 g2 W h
theorem orders_F (xs : List Ord) (n k : Int) (h : xs.length ≤ 32) : ordersF xs n k = (rising (xs.map (fun o => (o.acct, o.id))) && !(xs.any fun x => !ordOk n k x)) := by
  unfold ordersF
  rw [any_not, Bool.not_not, decide_eq_true h, Bool.true_and]
set_option maxHeartbeats 1000000 in
theorem orders_calls (a : Option Addr) (cap : Nat) (xs : List Ord) (n k : Int) (w : World) (hl : xs.length ≤ 1000000) (hat : At w a (xs.flatMap ordC)) :
    Calls Tryz.prog 40 #[.slice a xs.length cap, .int .i64 n, .int .i64 k] w fun e w' => e = .returned (.bool (ordersF xs n k)) ∧ Below w.heap.size w w' := by
  have X1 := (Box.new w 3 #[.int .i64 n]).alloc (.cells #[.int .i64 k] 3)
  have X2 := Box.new (w.alloc (.cells #[.int .i64 n] 3)) 3 #[.int .i64 k]
  rw [World.size_alloc] at X2
  have B := ((Below.refl w.heap.size w).alloc (Nat.le_refl _) (.cells #[.int .i64 n] 3)).alloc (by simp) (.cells #[.int .i64 k] 3)
  have A := hat.below B hat.lt
  clear hat
  go_enter Tryz.func40, Tryz.ntmps40
  go_upto_region 1 with fail
  generalize (w.alloc (.cells #[.int .i64 n] 3)).alloc (.cells #[.int .i64 k] 3) = w0 at *
  have T := Lib.hid (show Two2 w.heap.size (w.heap.size + 1) n k w0 from ⟨X1.cell 0, X2.cell 0⟩)
  clear X1 X2
  by_cases h64 : xs.length ≤ 32
  · have C1 := Lib.hid (fun W h => rise_ord a cap xs W hl h)
    have C2 := Lib.hid (fun W h h2 => contains_orders a cap xs w.heap.size (w.heap.size + 1) _ _ W (by omega) h h2 (two_keeps _ _ _ _) (asks_orders _ _ n k xs))
    have HP := Lib.hid (orders_F xs n k h64)
    have HA := Lib.hid A
    have HB := Lib.hid B
    clear A B
    generalize rising (xs.map (fun o => (o.acct, o.id))) = r1 at *
    generalize (xs.any fun x => !ordOk n k x) = r2 at *
    have two := (two_keeps w.heap.size (w.heap.size + 1) n k)
    have HT := Lib.hid two
    clear two
    cases r1
    · go_wp2_with (first | (go_at_call 78; refine (C1.out _ HA.out).mono ?_; rintro e w2 ⟨rfl, b2⟩))
      go_ret
      exact ⟨ret_bool (by rw [HP.out]; rfl), HB.out.trans (b2.mono HB.out.size)⟩
    · go_wp2_with (first | (go_at_call 78; refine (C1.out _ HA.out).mono ?_; rintro e w2 ⟨rfl, b2⟩; have HB2 := Lib.hid (HB.out.trans (b2.mono HB.out.size)); have HA2 := Lib.hid (HA.out.keep b2); have T2 := Lib.hid (HT.out _ _ T.out b2)) | (go_at_call 42; refine (C2.out _ HA2.out T2.out).mono ?_; rintro e w3 ⟨rfl, b3⟩))
      go_ret
      exact ⟨ret_bool (by rw [HP.out]; simp), HB2.out.trans (b3.mono HB2.out.size)⟩
  · have HP : Hid (ordersF xs n k = false) := by unfold Hid ordersF; rw [decide_eq_false h64]; rfl
    clear A
    go_wp2_with fail
    go_ret
    exact ⟨ret_bool (by rw [HP.out]), B⟩

theorem badq_calls (x : Int) (W : World) :
    Calls Tryz.prog 80 #[.int .i64 x] W fun e W' => e = .returned (.bool (!decide (0 ≤ x ∧ x ≤ MaxQty))) ∧ Below W.heap.size W W' := by
  go_enter Tryz.func80, Tryz.ntmps80
  go_wp2_with fail
  all_goals
    go_ret
    exact ⟨ret_bool (by rw [Bool.eq_iff_iff]; simp_all [MaxQty]; try omega), Below.refl _ _⟩
theorem asks_avail (xs : List Int) : Asks Tryz.prog 80 #[] intV (fun x => !decide (0 ≤ x ∧ x ≤ MaxQty)) xs (fun _ => True) := fun x _ W _ => badq_calls x W
theorem keeps_true : Keeps (fun _ => True) := fun _ _ _ _ => trivial
theorem locs_F (av : List Int) (xs : List Tri) (n k : Int) (h1 : (av.length : Int) = k) (h2 : xs.length ≤ 32) (h3 : (av.any fun q => !decide (0 ≤ q ∧ q ≤ MaxQty)) = false) : locsF av xs n k = (rising (xs.map fun p => (p.1, p.2.1)) && xs.all (locOk n k)) := by
  unfold locsF
  rw [any_not, Bool.not_eq_false'] at h3
  rw [decide_eq_true h1, decide_eq_true h2, h3, Bool.true_and, Bool.true_and, Bool.true_and]
/-- the first of them that isn't right, in the program's order -/
def LocK (n k : Int) (xs : List Tri) (j : Nat) : Prop := (∀ x ∈ xs.take j, locOk n k x = true) ∧ RiseK (fun p => (p.1, p.2.1)) xs (j - 1)
theorem LocK.zero (n k : Int) (xs : List Tri) : LocK n k xs 0 := ⟨by simp, RiseK.zero _ _⟩
theorem LocK.bad {n k : Int} {xs : List Tri} {j : Nat} (hj : j < xs.length) (h : locOk n k xs[j] = false) : (rising (xs.map fun p => (p.1, p.2.1)) && xs.all (locOk n k)) = false := by
  have : xs.all (locOk n k) = false := by
    rw [List.all_eq_false]
    exact ⟨_, List.getElem_mem hj, by simp [h]⟩
  rw [this, Bool.and_false]
theorem LocK.first {n k : Int} {xs : List Tri} (hj : 0 < xs.length) (h : locOk n k xs[0] = true) : LocK n k xs 1 := ⟨by
  intro x hx
  rw [List.take_succ_eq_append_getElem hj] at hx
  simp at hx
  rw [hx]; exact h, RiseK.zero _ _⟩
theorem LocK.next {n k : Int} {xs : List Tri} {j : Nat} (H : LocK n k xs (j + 1)) (hj : j + 1 < xs.length) (h : locOk n k xs[j + 1] = true) (ha : LedM.ahead (xs[j].1, xs[j].2.1) (xs[j + 1].1, xs[j + 1].2.1)) : LocK n k xs (j + 1 + 1) := ⟨by
  intro x hx
  rw [List.take_succ_eq_append_getElem hj] at hx
  rcases List.mem_append.1 hx with hx | hx
  · exact H.1 x hx
  · rw [List.mem_singleton.1 hx]; exact h, by
  have := H.2
  rw [Nat.add_sub_cancel] at this ⊢
  exact this.succ hj ha⟩
theorem LocK.turn {n k : Int} {xs : List Tri} {j : Nat} (hj : j + 1 < xs.length) (ha : ¬ LedM.ahead (xs[j].1, xs[j].2.1) (xs[j + 1].1, xs[j + 1].2.1)) : (rising (xs.map fun p => (p.1, p.2.1)) && xs.all (locOk n k)) = false := by
  rw [RiseK.fail (key := fun p => (p.1, p.2.1)) hj ha, Bool.false_and]
theorem LocK.all {n k : Int} {xs : List Tri} (H : LocK n k xs xs.length) : (rising (xs.map fun p => (p.1, p.2.1)) && xs.all (locOk n k)) = true := by
  rw [H.2.all (by omega), Bool.true_and, List.all_eq_true]
  intro x hx
  exact H.1 x (by rw [List.take_length]; exact hx)
set_option maxHeartbeats 4000000 in
set_option maxRecDepth 100000 in
theorem locate_calls (a a2 : Option Addr) (cap cap2 : Nat) (av : List Int) (xs : List Tri) (n k : Int) (w : World) (hl : xs.length ≤ 1000000) (hl2 : av.length ≤ 9223372036854775807) (hav : At w a2 (i64s av)) (hat : At w a (xs.flatMap triC)) :
    Calls Tryz.prog 41 #[.slice a2 av.length cap2, .slice a xs.length cap, .int .i64 n, .int .i64 k] w fun e w' => e = .returned (.bool (locsF av xs n k)) ∧ Below w.heap.size w w' := by
  go_enter Tryz.func41, Tryz.ntmps41
  by_cases hk : (av.length : Int) = k
  rotate_left
  · have HP : Hid (locsF av xs n k = false) := by unfold Hid locsF; rw [decide_eq_false hk]; rfl
    have hkb : ((av.length : Int) != k) = true := by simpa using hk
    clear hav hat hk
    go_wp2_with fail
    go_ret
    exact ⟨ret_bool HP.out.symm, Below.refl _ _⟩
  have hkb : ((av.length : Int) != k) = false := by simpa using hk
  have HK := Lib.hid hk
  clear hk
  by_cases h32 : xs.length ≤ 32
  rotate_left
  · have HP : Hid (locsF av xs n k = false) := by unfold Hid locsF; rw [decide_eq_false h32, Bool.and_false]; rfl
    clear hav hat
    go_wp2_with fail
    go_ret
    exact ⟨ret_bool HP.out.symm, Below.refl _ _⟩
  have C := Lib.hid (contains_avail a2 cap2 av _ _ w hl2 hav trivial keeps_true (asks_avail av))
  have HA := Lib.hid hat
  have HL := Lib.hid (fun h => locs_F av xs n k HK.out h32 h)
  have HN : Hid ((av.any fun q => !decide (0 ≤ q ∧ q ≤ MaxQty)) = true → locsF av xs n k = false) := fun h => by
    unfold locsF
    rw [any_not, Bool.not_eq_true'] at h
    rw [h, Bool.and_false]; rfl
  clear hav hat HK
  generalize (av.any fun q => !decide (0 ≤ q ∧ q ≤ MaxQty)) = r at C HL HN
  cases r
  rotate_left
  · have HP := Lib.hid (HN.out rfl)
    clear HL HN
    go_wp2_with (go_at_call 68; refine C.out.mono ?_; rintro e w2 ⟨rfl, b2⟩)
    go_ret
    exact ⟨ret_bool HP.out.symm, b2⟩
  have HP := Lib.hid (HL.out rfl)
  clear HL HN
  go_wp2_with (go_at_call 68; refine C.out.mono ?_; rintro e w2 ⟨rfl, b2⟩)
  have HA2 := Lib.hid (HA.out.keep b2)
  clear HA C
  go_loopw [26] (fun i wr => ∃ j : Nat, j ≤ xs.length ∧ i = .int .i64 (j : Int) ∧ At wr a (xs.flatMap triC) ∧ Below w.heap.size w wr ∧ Hid (LocK n k xs j)) (fun i _ => xs.length - (intOf i).toNat)
  case atStart => exact ⟨0, by omega, rfl, HA2.out, b2, LocK.zero _ _ _⟩
  case round =>
    clear b2 HA2
    obtain ⟨j, hj, rfl, hA, hB, H⟩ := hrel
    have HA := Lib.hid hA
    have HB := Lib.hid hB
    by_cases hlt : j < xs.length
    · obtain ⟨b, off, rfl, C1⟩ := rec_at len_loc (by decide) hA hlt
      have HBad := Lib.hid (fun h => LocK.bad (n := n) (k := k) hlt h)
      have HX0 : Hid (∀ hj0 : j = 0, locOk n k xs[j] = true → LocK n k xs (j + 1)) := fun e h => by subst e; exact LocK.first hlt h
      have HX1 : Hid (∀ (m : Nat) (hm : m < xs.length), j = m + 1 → locOk n k xs[j] = true → LedM.ahead (xs[m].1, xs[m].2.1) (xs[j].1, xs[j].2.1) → LocK n k xs (j + 1)) := fun m _ e h ha => by subst e; exact H.out.next hlt h ha
      have HX2 : Hid (∀ (m : Nat) (hm : m < xs.length), j = m + 1 → ¬ LedM.ahead (xs[m].1, xs[m].2.1) (xs[j].1, xs[j].2.1) → (rising (xs.map fun p => (p.1, p.2.1)) && xs.all (locOk n k)) = false) := fun m _ e ha => by subst e; exact LocK.turn hlt ha
      have hiff := locOk_iff n k
      generalize xs[j] = x at *
      obtain ⟨x0, x1, x2⟩ := x
      have c0 := C1 0 _ rfl
      have c1 := C1 1 _ rfl
      have c2 := C1 2 _ rfl
      clear C1
      simp only [← Nat.add_assoc, Nat.add_zero] at c0 c1 c2
      have hi := hiff x0 x1 x2
      clear hiff
      cases hok : locOk n k (x0, x1, x2)
      · have HQ := Lib.hid (HBad.out hok)
        have hnot : ¬ (2 ≤ x0 ∧ x0 < n ∧ 0 ≤ x1 ∧ x1 < k ∧ 1 ≤ x2 ∧ x2 ≤ 1000000000) := fun h => by rw [hi.2 h] at hok; cases hok
        have HNot := Lib.hid hnot
        clear hi hnot hok HBad HX0 HX1 HX2
        go_upto_region 6 with fail
        have X := Box.new wr 66 #[.int .i64 x0, .int .i64 x1, .int .i64 x2]
        have B3 := Lib.hid (HB.out.alloc HB.out.size (.cells #[.int .i64 x0, .int .i64 x1, .int .i64 x2] 66))
        generalize wr.alloc (.cells #[.int .i64 x0, .int .i64 x1, .int .i64 x2] 66) = w3 at *
        clear c0 c1 c2
        have e0 := X.cell 0
        have e1 := X.cell 1
        have e2 := X.cell 2
        clear X
        go_wp2_with fail
        all_goals first
          | (go_ret; exact ⟨ret_bool (by rw [HP.out, HQ.out]), B3.out⟩)
          | (exfalso; clear e0 e1 e2; have := HNot.out; omega)
      · obtain ⟨i1, i2, i3, i4, i5, i6⟩ := hi.1 hok
        clear hi HBad
        go_upto_region 8 with fail
        have X := Box.new wr 66 #[.int .i64 x0, .int .i64 x1, .int .i64 x2]
        have b3 := (Below.refl wr.heap.size wr).alloc (Nat.le_refl _) (.cells #[.int .i64 x0, .int .i64 x1, .int .i64 x2] 66)
        have B3 := Lib.hid (HB.out.alloc HB.out.size (.cells #[.int .i64 x0, .int .i64 x1, .int .i64 x2] 66))
        have HA3 := Lib.hid (HA.out.keep b3)
        clear HA HB b3
        generalize wr.alloc (.cells #[.int .i64 x0, .int .i64 x1, .int .i64 x2] 66) = w3 at *
        clear c0 c1 c2
        have e0 := X.cell 0
        have e1 := X.cell 1
        have e2 := X.cell 2
        clear X
        by_cases h0 : j = 0
        · have HX := Lib.hid (HX0.out h0 hok)
          have hd : decide (0 < j) = false := by simp; omega
          clear HX0 HX1 HX2 hok h0
          go_quiet (fail)
          go_wp2_with fail
          go_roundw
          case rel => exact ⟨j + 1, by omega, by go_num, HA3.out.drewN _, below_drewN B3.out _, HX⟩
          case measure => simp [intOf]; omega
        · obtain ⟨m, hm⟩ : ∃ m, j = m + 1 := ⟨j - 1, by omega⟩
          have hml : m < xs.length := by omega
          have HY := Lib.hid (HX1.out m hml hm hok)
          have HZ := Lib.hid (HX2.out m hml hm)
          have hd : decide (0 < j) = true := by simp; omega
          obtain ⟨b', off', h1, C2⟩ := rec_at len_loc (by decide) HA3.out hml
          have hw : IntKind.i64.wrap ((j : Int) - 1) = m := by rw [IntWalk.i64_in _ (by omega)]; omega
          have hmi : (m : Int) < xs.length := by omega
          have HM := Lib.hid hm
          clear HX0 HX1 HX2 hok h0 hm
          generalize xs[m] = y at *
          obtain ⟨y0, y1, y2⟩ := y
          cases h1
          have d0 := C2 0 _ rfl
          have d1 := C2 1 _ rfl
          have d2 := C2 2 _ rfl
          clear C2
          simp only [← Nat.add_assoc, Nat.add_zero] at d0 d1 d2
          refine wp_region_still_tail 9 (by kernel_rfl) (by kernel_rfl) ?_
          simp only [List.take_succ_cons, List.take_zero, List.drop_succ_cons, List.drop_zero]
          repeat still_step
          refine wpStill_nil ?_
          change wpList _ _ _ _ _ w3.drew
          have B4 := Lib.hid (B3.out.drew)
          have HA4 := Lib.hid (HA3.out.drewN 1)
          clear B3 HA3 d0 d1 d2 e0 e1 e2
          rw [show w3.drewN 1 = w3.drew from rfl] at HA4
          generalize w3.drew = w4 at *
          by_cases hah : LedM.ahead (y0, y1) (x0, x1)
          · have HW := Lib.hid (HY.out hah)
            have hr : byF y0 y1 x0 x1 < 0 := (byF_ahead _ _ _ _).2 hah
            have hr2 : ¬ 0 ≤ byF y0 y1 x0 x1 := by omega
            have C := Lib.hid (fun W => byLoc_calls y0 y1 y2 x0 x1 x2 W)
            clear HY HZ hah
            generalize byF y0 y1 x0 x1 = r at *
            go_wp2_with (go_at_call 81; refine (C.out _).mono ?_; rintro e w5 ⟨rfl, b5⟩)
            go_roundw
            case rel => exact ⟨j + 1, by omega, by go_num, HA4.out.keep b5, B4.out.trans (b5.mono B4.out.size), HW⟩
            case measure => simp [intOf]; omega
          · have HW := Lib.hid (HZ.out hah)
            have hr2 : 0 ≤ byF y0 y1 x0 x1 := by
              have hh : ¬ byF y0 y1 x0 x1 < 0 := fun h => hah ((byF_ahead y0 y1 x0 x1).1 h)
              omega
            have C := Lib.hid (fun W => byLoc_calls y0 y1 y2 x0 x1 x2 W)
            clear HY HZ hah
            generalize byF y0 y1 x0 x1 = r at *
            go_wp2_with (go_at_call 81; refine (C.out _).mono ?_; rintro e w5 ⟨rfl, b5⟩)
            go_ret
            exact ⟨ret_bool (by rw [HP.out, HW.out]), B4.out.trans (b5.mono B4.out.size)⟩
    · have hr : Hid ((rising (xs.map fun p => (p.1, p.2.1)) && xs.all (locOk n k)) = true) := by
        obtain rfl : j = xs.length := by omega
        exact H.out.all
      clear H hA hB
      go_wp2_with fail
      go_ret
      exact ⟨ret_bool (by rw [HP.out, hr.out]), HB.out⟩

end Go.Proofs.YtocjfjikkdpfdaaGreatDoor.LedW
