/- cmp.Compare and cmp.Or of numbers; the orders of positions, orders and reservations; what may be a quantity, who may trade. -/
import Derived.Test.YtocjfjikkdpfdaaGreatDoorLedFinds
import Derived.Test.YtocjfjikkdpfdaaGreatDoorFixpWalks
import Derived.Deep.RegionWith
import Derived.Deep.RegionHeld3
import Derived.IntWalk
import Derived.Deep.DeepCutAuto
import Derived.Deep.CutBlock
import Derived.StillTailTactics
set_option linter.unusedSimpArgs false
set_option linter.unusedVariables false
namespace Go.Proofs.YtocjfjikkdpfdaaGreatDoor.LedW
open Go.RowKit Go.Proofs.YtocjfjikkdpfdaaGreatDoor.Bas Go.Proofs.YtocjfjikkdpfdaaGreatDoor.LedM

theorem isNaN_calls (a : Int) (w : World) : Calls Tryz.prog 101 #[.int .i64 a] w fun e w' => e = .returned (.bool false) ∧ w = w' := by
  go_enter Tryz.func101, Tryz.ntmps101
  go_wp2_with fail
  go_ret
  exact ⟨ret_bool (by simp), rfl⟩
def cmpF (a b : Int) : Int := if a < b then -1 else if b < a then 1 else 0
theorem compare_calls (a b : Int) (w : World) : Calls Tryz.prog 96 #[.int .i64 a, .int .i64 b] w fun e w' => e = .returned (.int .i64 (cmpF a b)) ∧ w = w' := by
  go_enter Tryz.func96, Tryz.ntmps96
  go_wp2_with (go_at_call 101; refine (isNaN_calls _ _).mono ?_; rintro e w' ⟨rfl, rfl⟩)
  all_goals
    go_ret
    exact ⟨ret_int (by unfold cmpF; split <;> (try split) <;> omega), rfl⟩
theorem compare_still (a b : Int) (w : World) : Calls Tryz.prog 96 #[.int .i64 a, .int .i64 b] w fun e w' => e = .returned (.int .i64 (cmpF a b)) ∧ w' = w := (compare_calls a b w).mono fun _ _ ⟨h, k⟩ => ⟨h, k.symm⟩
def orF (a b : Int) : Int := if a = 0 then b else a
set_option maxHeartbeats 1000000 in
theorem or_calls (g : Nat) (a b : Int) (w : World) (c0 : w.cell? ⟨g, 0, none⟩ = some (.int .i64 a)) (c1 : w.cell? ⟨g, 1, none⟩ = some (.int .i64 b)) :
    Calls Tryz.prog 95 #[.slice (some ⟨g, 0, none⟩) 2 2] w fun e w' => e = .returned (.int .i64 (orF a b)) ∧ w = w' := by
  go_enter Tryz.func95, Tryz.ntmps95
  go_wp2_with fail
  go_loop [8] (fun i => ∃ k : Nat, k ≤ 2 ∧ i = .int .i64 k ∧ Hid (k = 0 ∨ (k = 1 ∧ a = 0) ∨ (k = 2 ∧ a = 0 ∧ b = 0))) (fun i => 2 - (intOf i).toNat)
  case atStart => exact ⟨0, by omega, rfl, .inl rfl⟩
  case round =>
    obtain ⟨k, hk, rfl, h⟩ := hrel
    rcases h with rfl | ⟨rfl, rfl⟩ | ⟨rfl, rfl, rfl⟩
    · by_cases ha : a = 0
      · subst ha
        go_wp2_with fail
        go_round
        case rel => exact ⟨1, by omega, rfl, .inr (.inl ⟨rfl, by trivial⟩)⟩
        case measure => simp [intOf]
      · have hab : (a != 0) = true := by simpa using ha
        go_wp2_with fail
        go_ret
        exact ⟨ret_int (by unfold orF; rw [if_neg ha]), rfl⟩
    · by_cases hb : b = 0
      · subst hb
        go_wp2_with fail
        go_round
        case rel => exact ⟨2, by omega, rfl, .inr (.inr ⟨rfl, by trivial, by trivial⟩)⟩
        case measure => simp [intOf]
      · have hab : (b != 0) = true := by simpa using hb
        go_wp2_with fail
        go_ret
        exact ⟨ret_int (by unfold orF; rw [if_pos rfl]), rfl⟩
    · go_wp2_with fail
      go_ret
      exact ⟨ret_int (by unfold orF; rw [if_pos rfl]), rfl⟩
/-- which stands ahead, by two keys -/
def byF (a b c d : Int) : Int := orF (cmpF a c) (cmpF b d)
theorem byF_ahead (a b c d : Int) : byF a b c d < 0 ↔ LedM.ahead (a, b) (c, d) := by
  unfold byF orF cmpF LedM.ahead
  simp only
  by_cases h1 : a < c
  · rw [if_pos h1]; simp [h1]
  · rw [if_neg h1]
    by_cases h2 : c < a
    · rw [if_pos h2]; simp; omega
    · rw [if_neg h2, if_pos rfl]
      by_cases h3 : b < d
      · rw [if_pos h3]; simp; omega
      · rw [if_neg h3]
        by_cases h4 : d < b
        · rw [if_pos h4]; simp; omega
        · rw [if_neg h4]; simp; omega
theorem fits_calls13 (q : Int) (w : World) : Calls Tryz.prog 73 #[.int .i64 q] w fun e w' => e = .returned (.bool (decide (q ≠ 0 ∧ -1000000000 ≤ q ∧ q ≤ 1000000000))) ∧ w = w' := by
  go_enter Tryz.func73, Tryz.ntmps73
  go_wp2_with fail
  all_goals
    go_ret
    exact ⟨ret_bool (by rw [Bool.eq_iff_iff]; simp_all; try omega), rfl⟩
theorem trades_calls (a n : Int) (w : World) : Calls Tryz.prog 72 #[.int .i64 a, .int .i64 n] w fun e w' => e = .returned (.bool (decide (2 ≤ a ∧ a < n))) ∧ w = w' := by
  go_enter Tryz.func72, Tryz.ntmps72
  go_wp2_with fail
  all_goals
    go_ret
    exact ⟨ret_bool (by rw [Bool.eq_iff_iff]; simp_all; try omega), rfl⟩
theorem new0 (w : World) (t : TypeId) (x y : Value) : (w.alloc (.cells #[x, y] t)).cell? ⟨w.heap.size, 0, none⟩ = some x := (Box.new w t #[x, y]).cell 0
theorem new1 (w : World) (t : TypeId) (x y : Value) : (w.alloc (.cells #[x, y] t)).cell? ⟨w.heap.size, 1, none⟩ = some y := (Box.new w t #[x, y]).cell 1
set_option maxHeartbeats 1000000 in
set_option maxRecDepth 100000 in
theorem byPos_calls (a b q0 c d r0 : Int) (w : World) :
    Calls Tryz.prog 75 #[.agg #[.int .i64 a, .int .i64 b, .int .i64 q0], .agg #[.int .i64 c, .int .i64 d, .int .i64 r0]] w fun e w' => e = .returned (.int .i64 (byF a b c d)) ∧ Below w.heap.size w w' := by
  have X0 := (Box.new w 63 #[.int .i64 a, .int .i64 b, .int .i64 q0]).alloc (.cells #[.int .i64 c, .int .i64 d, .int .i64 r0] 63)
  have X1 := Box.new (w.alloc (.cells #[.int .i64 a, .int .i64 b, .int .i64 q0] 63)) 63 #[.int .i64 c, .int .i64 d, .int .i64 r0]
  rw [World.size_alloc] at X1
  have B0 := ((Below.refl w.heap.size w).alloc (Nat.le_refl _) (.cells #[.int .i64 a, .int .i64 b, .int .i64 q0] 63)).alloc (by simp) (.cells #[.int .i64 c, .int .i64 d, .int .i64 r0] 63)
  go_enter Tryz.func75, Tryz.ntmps75
  go_upto_region 1 with fail
  generalize (w.alloc (.cells #[.int .i64 a, .int .i64 b, .int .i64 q0] 63)).alloc (.cells #[.int .i64 c, .int .i64 d, .int .i64 r0] 63) = w0 at *
  have c0 := X0.cell 0
  have c1 := X0.cell 1
  have d0 := X1.cell 0
  have d1 := X1.cell 1
  refine wp_region_still_tail 10 (by kernel_rfl) (by kernel_rfl) ?_
  simp only [List.take_succ_cons, List.take_zero, List.drop_succ_cons, List.drop_zero]
  repeat (first | still_step | still_call (compare_still _ _ _))
  refine wpStill_nil ?_
  change wpList _ _ _ _ _ w0.drew
  have B1 := B0.drew
  clear B0
  generalize w0.drew = w1 at *
  go_wp2_with (go_at_call 95; refine (or_calls _ _ _ _ (new0 _ _ _ _) (new1 _ _ _ _)).mono ?_; rintro e w' ⟨rfl, rfl⟩)
  go_ret
  exact ⟨rfl, B1.alloc B1.size _⟩
set_option maxHeartbeats 1000000 in
set_option maxRecDepth 100000 in
theorem byOrder_calls (a b q0 q1 q2 c d r0 r1 r2 : Int) (w : World) :
    Calls Tryz.prog 79 #[.agg #[.int .i64 a, .int .i64 b, .int .i64 q0, .int .i64 q1, .int .i64 q2], .agg #[.int .i64 c, .int .i64 d, .int .i64 r0, .int .i64 r1, .int .i64 r2]] w fun e w' => e = .returned (.int .i64 (byF a b c d)) ∧ Below w.heap.size w w' := by
  have X0 := (Box.new w 65 #[.int .i64 a, .int .i64 b, .int .i64 q0, .int .i64 q1, .int .i64 q2]).alloc (.cells #[.int .i64 c, .int .i64 d, .int .i64 r0, .int .i64 r1, .int .i64 r2] 65)
  have X1 := Box.new (w.alloc (.cells #[.int .i64 a, .int .i64 b, .int .i64 q0, .int .i64 q1, .int .i64 q2] 65)) 65 #[.int .i64 c, .int .i64 d, .int .i64 r0, .int .i64 r1, .int .i64 r2]
  rw [World.size_alloc] at X1
  have B0 := ((Below.refl w.heap.size w).alloc (Nat.le_refl _) (.cells #[.int .i64 a, .int .i64 b, .int .i64 q0, .int .i64 q1, .int .i64 q2] 65)).alloc (by simp) (.cells #[.int .i64 c, .int .i64 d, .int .i64 r0, .int .i64 r1, .int .i64 r2] 65)
  go_enter Tryz.func79, Tryz.ntmps79
  go_upto_region 1 with fail
  generalize (w.alloc (.cells #[.int .i64 a, .int .i64 b, .int .i64 q0, .int .i64 q1, .int .i64 q2] 65)).alloc (.cells #[.int .i64 c, .int .i64 d, .int .i64 r0, .int .i64 r1, .int .i64 r2] 65) = w0 at *
  have c0 := X0.cell 0
  have c1 := X0.cell 1
  have d0 := X1.cell 0
  have d1 := X1.cell 1
  refine wp_region_still_tail 10 (by kernel_rfl) (by kernel_rfl) ?_
  simp only [List.take_succ_cons, List.take_zero, List.drop_succ_cons, List.drop_zero]
  repeat (first | still_step | still_call (compare_still _ _ _))
  refine wpStill_nil ?_
  change wpList _ _ _ _ _ w0.drew
  have B1 := B0.drew
  clear B0
  generalize w0.drew = w1 at *
  go_wp2_with (go_at_call 95; refine (or_calls _ _ _ _ (new0 _ _ _ _) (new1 _ _ _ _)).mono ?_; rintro e w' ⟨rfl, rfl⟩)
  go_ret
  exact ⟨rfl, B1.alloc B1.size _⟩
set_option maxHeartbeats 1000000 in
set_option maxRecDepth 100000 in
theorem byLoc_calls (a b q0 c d r0 : Int) (w : World) :
    Calls Tryz.prog 81 #[.agg #[.int .i64 a, .int .i64 b, .int .i64 q0], .agg #[.int .i64 c, .int .i64 d, .int .i64 r0]] w fun e w' => e = .returned (.int .i64 (byF a b c d)) ∧ Below w.heap.size w w' := by
  have X0 := (Box.new w 66 #[.int .i64 a, .int .i64 b, .int .i64 q0]).alloc (.cells #[.int .i64 c, .int .i64 d, .int .i64 r0] 66)
  have X1 := Box.new (w.alloc (.cells #[.int .i64 a, .int .i64 b, .int .i64 q0] 66)) 66 #[.int .i64 c, .int .i64 d, .int .i64 r0]
  rw [World.size_alloc] at X1
  have B0 := ((Below.refl w.heap.size w).alloc (Nat.le_refl _) (.cells #[.int .i64 a, .int .i64 b, .int .i64 q0] 66)).alloc (by simp) (.cells #[.int .i64 c, .int .i64 d, .int .i64 r0] 66)
  go_enter Tryz.func81, Tryz.ntmps81
  go_upto_region 1 with fail
  generalize (w.alloc (.cells #[.int .i64 a, .int .i64 b, .int .i64 q0] 66)).alloc (.cells #[.int .i64 c, .int .i64 d, .int .i64 r0] 66) = w0 at *
  have c0 := X0.cell 0
  have c1 := X0.cell 1
  have d0 := X1.cell 0
  have d1 := X1.cell 1
  refine wp_region_still_tail 10 (by kernel_rfl) (by kernel_rfl) ?_
  simp only [List.take_succ_cons, List.take_zero, List.drop_succ_cons, List.drop_zero]
  repeat (first | still_step | still_call (compare_still _ _ _))
  refine wpStill_nil ?_
  change wpList _ _ _ _ _ w0.drew
  have B1 := B0.drew
  clear B0
  generalize w0.drew = w1 at *
  go_wp2_with (go_at_call 95; refine (or_calls _ _ _ _ (new0 _ _ _ _) (new1 _ _ _ _)).mono ?_; rintro e w' ⟨rfl, rfl⟩)
  go_ret
  exact ⟨rfl, B1.alloc B1.size _⟩
end Go.Proofs.YtocjfjikkdpfdaaGreatDoor.LedW
