/- The wakes of layer 10; the two ways of Below. -/
import Derived.Test.YtmnhmlbpaebabaaTreeAbove
namespace Go.Proofs.Ytmnhmlbpaebabaa.TreeW
open Go.RowKit Go.Shelf Go.Proofs.Ytmnhmlbpaebabaa.Bas Go.Proofs.Ytmnhmlbpaebabaa.TreeM

def ps0 : List Int := [-1, -1, -1, 2, 3]
theorem ch0 : chain ps0 0 = [0] := chain_root rfl
theorem ch1 : chain ps0 1 = [1] := chain_root rfl
theorem ch2 : chain ps0 2 = [2] := chain_root rfl
theorem ch3 : chain ps0 3 = [3, 2] := by rw [chain_step (by decide) (by decide)]; exact congrArg _ ch2
theorem ch4 : chain ps0 4 = [4, 3, 2] := by rw [chain_step (by decide) (by decide)]; exact congrArg _ ch3
theorem ok0 : Ok ps0 := by
  refine ⟨by decide, by decide, fun v hv => ?_⟩
  have h5 : v < 5 := hv
  rcases (by omega : v = 0 ∨ v = 1 ∨ v = 2 ∨ v = 3 ∨ v = 4) with rfl | rfl | rfl | rfl | rfl
  · exact .inl rfl
  · exact .inl rfl
  · exact .inl rfl
  · exact .inr ⟨by decide, by decide, by decide, by rw [ch3]; decide⟩
  · exact .inr ⟨by decide, by decide, by decide, by rw [ch4]; decide⟩
theorem below0 : belowF ps0 2 = [2, 3, 4] := by
  unfold belowF
  rw [if_pos ⟨ok0, by decide, by decide⟩]
  show belowN ps0 2 5 = _
  rw [belowN_succ, belowN_succ, belowN_first, ch3, ch4]
  rfl
theorem above0 : (aboveF ps0 4).length = 3 := by
  rw [aboveF_yes ⟨ok0, by decide, by decide⟩]
  show (chain ps0 4).length = 3
  rw [ch4]; rfl
theorem x0 : ∀ x ∈ ps0, I64 x := by
  intro x hx
  simp [ps0] at hx
  unfold I64
  omega

set_option maxHeartbeats 1000000 in
theorem wakes_calls (w : World) : Calls Try.prog 7 #[] w fun e w' => e = .returned (.bool true) ∧ Below w.heap.size w w' := by
  have C1 := Lib.hid (fun W a h => check_calls a 5 ps0 W (by decide) h x0)
  have C2 := Lib.hid (fun W a h => below_calls a 5 ps0 2 W (by decide) h x0)
  have C3 := Lib.hid (fun W a h => depth_calls a 5 ps0 4 W (by decide) h x0)
  have C4 := Lib.hid (fun W a b ca cb h h2 => same_calls a b ca cb [2, 3, 4] [2, 3, 4] W (by decide) (by decide) h h2)
  rw [checkF_of_ok ok0] at C1
  rw [below0] at C2
  rw [above0] at C3
  simp only [List.length_cons, List.length_nil, Nat.zero_add, Nat.reduceAdd, decide_true] at C2 C4
  go_enter Try.func7, Try.ntmps7
  have A0 : At (w.alloc (.cells #[.int .i64 (-1), .int .i64 (-1), .int .i64 (-1), .int .i64 2, .int .i64 3] 3)) (some ⟨w.heap.size, 0, none⟩) (i64s ps0) := at_alloc w _ _ _
  have B0 := (Below.refl w.heap.size w).alloc (Nat.le_refl _) (.cells #[.int .i64 (-1), .int .i64 (-1), .int .i64 (-1), .int .i64 2, .int .i64 3] 3)
  have z0 := B0.size
  go_wp2_with (first
    | (go_at_call 14; refine (C1.out _ _ A0).mono ?_; rintro e w2 ⟨rfl, hB2⟩; have B2 := B0.trans (hB2.mono z0); have A2 : At (w2.alloc (.cells #[.int .i64 (-1), .int .i64 (-1), .int .i64 (-1), .int .i64 2, .int .i64 3] 3)) (some ⟨w2.heap.size, 0, none⟩) (i64s ps0) := at_alloc w2 _ _ _; have B3 := B2.alloc B2.size (.cells #[.int .i64 (-1), .int .i64 (-1), .int .i64 (-1), .int .i64 2, .int .i64 3] 3); have z3 := B3.size; clear A0 B0 hB2 B2 C1)
    | (go_at_call 11; refine (C2.out _ _ A2).mono ?_; rintro e w4 ⟨s, rfl, own, hB4⟩; have B4 := B3.trans (hB4.mono z3); obtain ⟨ao, co, rfl, _, _, hat, _, _⟩ := at_of_owns own; have A4 : At (w4.alloc (.cells #[.int .i64 2, .int .i64 3, .int .i64 4] 3)) (some ⟨w4.heap.size, 0, none⟩) (i64s [2, 3, 4]) := at_alloc w4 _ _ _; have B5 := B4.alloc B4.size (.cells #[.int .i64 2, .int .i64 3, .int .i64 4] 3); have z5 := B5.size; have A5 : At (w4.alloc (.cells #[.int .i64 2, .int .i64 3, .int .i64 4] 3)) ao (i64s [2, 3, 4]) := hat.keep ((Below.refl _ _).alloc (Nat.le_refl _) _); clear own hat hB4 B4 A2 B3 C2)
    | (go_at_call 12; refine (C4.out _ _ _ _ _ A5 A4).mono ?_; rintro e w6 ⟨rfl, n, hw6⟩; have B6 : Below w.heap.size w w6 := hw6 ▸ below_drewN B5 n; have A7 : At (w6.alloc (.cells #[.int .i64 (-1), .int .i64 (-1), .int .i64 (-1), .int .i64 2, .int .i64 3] 3)) (some ⟨w6.heap.size, 0, none⟩) (i64s ps0) := at_alloc w6 _ _ _; have B7 := B6.alloc B6.size (.cells #[.int .i64 (-1), .int .i64 (-1), .int .i64 (-1), .int .i64 2, .int .i64 3] 3); have z7 := B7.size; clear A4 A5 B5 B6 hw6 C4)
    | (go_at_call 10; refine (C3.out _ _ A7).mono ?_; rintro e w8 ⟨rfl, hB8⟩; have B8 := B7.trans (hB8.mono z7)))
  go_ret
  exact ⟨rfl, B8⟩

/-- the two ways of Below say the same -/
theorem rbelow_is {ps : List Int} {v : Int} (h : Ok ps ∧ 0 ≤ v ∧ v < ps.length) : rbelowN ps v ps.length = belowF ps v := by
  unfold rbelowN belowF belowN
  rw [if_pos h]
  refine List.filter_congr fun u hu => ?_
  have hu' : u < ps.length := by simpa using hu
  rw [aboveF_yes ⟨h.1, by omega, by omega⟩]
  simp only [mem_ints, Int.toNat_natCast]
  simp [h.2.1]
end Go.Proofs.Ytmnhmlbpaebabaa.TreeW
