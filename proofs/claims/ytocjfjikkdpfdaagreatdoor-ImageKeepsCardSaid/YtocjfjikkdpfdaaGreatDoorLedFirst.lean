/- The ledger at the beginning, of the program and of the document. -/
import Derived.Test.YtocjfjikkdpfdaaGreatDoorLedCopy
set_option linter.unusedSimpArgs false
set_option linter.unusedVariables false
namespace Go.Proofs.YtocjfjikkdpfdaaGreatDoor.LedW
open Go.RowKit Go.Proofs.YtocjfjikkdpfdaaGreatDoor.Bas Go.Proofs.YtocjfjikkdpfdaaGreatDoor.LedM

theorem box_owns {W : World} {base g : Nat} {e : TypeId} {size : Nat} {cs : Array Value} (hb : Box W g e cs) (hg : base ≤ g) (n : Nat) (hn : n ≤ maxLen) (hs : cs.size = n * size) : W.ownsRow base e size (.slice (some ⟨g, 0, none⟩) n n) n cs.toList :=
  ⟨by simpa using hs, .inr ⟨g, n, cs, rfl, hg, hb, Nat.le_refl _, hn, hs, List.take_of_length_le (by rw [Array.length_toList, hs]; exact Nat.le_refl _)⟩⟩
theorem box_at {W : World} {g g' : Nat} {t : TypeId} {cs : Array Value} (h : Box W g t cs) (e : g = g') : Box W g' t cs := e ▸ h
def first2 (a b : Value) : List (Value × Acc) := [(a, ⟨-1, [0], false, 0⟩), (b, ⟨-1, [0], false, 0⟩)]
theorem first_own {base : Nat} {W : World} {g1 g2 g3 g4 c1 c4 : Nat} (o1 : W.ownsRow base 55 2 (.slice (some ⟨g1, 0, none⟩) 1 c1) 1 [.int .i64 1000000, .int .i64 0])
    (o2 : W.ownsRow base 3 1 (.slice (some ⟨g2, 0, none⟩) 1 1) 1 [.int .i64 0]) (o3 : W.ownsRow base 3 1 (.slice (some ⟨g3, 0, none⟩) 1 1) 1 [.int .i64 0]) (hne : g2 ≠ g3)
    (o4 : W.ownsRow base 46 4 (.slice (some ⟨g4, 0, none⟩) 2 c4) 2 [.int .i64 (-1), .slice (some ⟨g2, 0, none⟩) 1 1, .bool false, .int .i64 0, .int .i64 (-1), .slice (some ⟨g3, 0, none⟩) 1 1, .bool false, .int .i64 0]) :
    LedOwn base W ⟨some ⟨g1, 0, none⟩, c1, none, 0, none, 0, some ⟨g4, 0, none⟩, c4, none, 0, none, 0, none, 0, none, 0⟩ firstL (first2 (.slice (some ⟨g2, 0, none⟩) 1 1) (.slice (some ⟨g3, 0, none⟩) 1 1)) := by
  refine ⟨o1, World.ownsRow_nil _ _ _ _, World.ownsRow_nil _ _ _ _, o4, World.ownsRow_nil _ _ _ _, World.ownsRow_nil _ _ _ _, World.ownsRow_nil _ _ _ _, World.ownsRow_nil _ _ _ _, rfl, ?_, ?_, ?_⟩
  · intro x hx
    simp only [first2, List.mem_cons, List.not_mem_nil, or_false] at hx
    rcases hx with rfl | rfl
    · exact o2
    · exact o3
  · unfold first2
    rw [List.pairwise_cons]
    refine ⟨fun y hy => ?_, by simp⟩
    simp only [List.mem_cons, List.not_mem_nil, or_false] at hy
    subst hy
    intro g h1 h2
    simp [Value.ownBlock] at h1 h2
    omega
  · intro x _ g h1
    simp [Value.ownBlock] at h1
set_option maxHeartbeats 1000000 in
theorem first_calls (w : World) : Calls Tryz.prog 18 #[] w fun e w' => ∃ s us, e = .returned (ledV s firstL) ∧ LedOwn w.heap.size w' s firstL us ∧ Below w.heap.size w w' := by
  go_enter Tryz.func18, Tryz.ntmps18
  go_wp2_with fail
  have B1 := (Box.new w 31 #[.int .i64 0, .slice (some ⟨w.heap.size + 1, 0, none⟩) 1 1, .slice none 0 0, .slice none 0 0, .slice (some ⟨w.heap.size + 1 + 1 + 1 + 1, 0, none⟩) 2 2, .slice none 0 0, .slice none 0 0, .slice none 0 0, .slice none 0 0])
  have L1 := (Below.refl w.heap.size w).alloc (Nat.le_refl _) (.cells #[.int .i64 0, .slice (some ⟨w.heap.size + 1, 0, none⟩) 1 1, .slice none 0 0, .slice none 0 0, .slice (some ⟨w.heap.size + 1 + 1 + 1 + 1, 0, none⟩) 2 2, .slice none 0 0, .slice none 0 0, .slice none 0 0, .slice none 0 0] 31)
  have z1 : (w.alloc (.cells #[.int .i64 0, .slice (some ⟨w.heap.size + 1, 0, none⟩) 1 1, .slice none 0 0, .slice none 0 0, .slice (some ⟨w.heap.size + 1 + 1 + 1 + 1, 0, none⟩) 2 2, .slice none 0 0, .slice none 0 0, .slice none 0 0, .slice none 0 0] 31)).heap.size = w.heap.size + 1 := World.size_alloc _ _
  generalize w.alloc (.cells #[.int .i64 0, .slice (some ⟨w.heap.size + 1, 0, none⟩) 1 1, .slice none 0 0, .slice none 0 0, .slice (some ⟨w.heap.size + 1 + 1 + 1 + 1, 0, none⟩) 2 2, .slice none 0 0, .slice none 0 0, .slice none 0 0, .slice none 0 0] 31) = w1 at *
  have B2 := Box.new w1 55 #[.int .i64 1000000, .int .i64 0]
  replace B1 := B1.alloc (.cells #[.int .i64 1000000, .int .i64 0] 55)
  have L2 := L1.alloc L1.size (.cells #[.int .i64 1000000, .int .i64 0] 55)
  have z2 : (w1.alloc (.cells #[.int .i64 1000000, .int .i64 0] 55)).heap.size = w.heap.size + 2 := by rw [World.size_alloc, z1]
  rw [z1] at B2
  generalize w1.alloc (.cells #[.int .i64 1000000, .int .i64 0] 55) = w2 at *
  have B3 := Box.new w2 3 #[.int .i64 0]
  replace B1 := B1.alloc (.cells #[.int .i64 0] 3)
  replace B2 := B2.alloc (.cells #[.int .i64 0] 3)
  have L3 := L2.alloc L2.size (.cells #[.int .i64 0] 3)
  have z3 : (w2.alloc (.cells #[.int .i64 0] 3)).heap.size = w.heap.size + 3 := by rw [World.size_alloc, z2]
  rw [z2] at B3
  generalize w2.alloc (.cells #[.int .i64 0] 3) = w3 at *
  have B4 := Box.new w3 3 #[.int .i64 0]
  replace B1 := B1.alloc (.cells #[.int .i64 0] 3)
  replace B2 := B2.alloc (.cells #[.int .i64 0] 3)
  replace B3 := B3.alloc (.cells #[.int .i64 0] 3)
  have L4 := L3.alloc L3.size (.cells #[.int .i64 0] 3)
  have z4 : (w3.alloc (.cells #[.int .i64 0] 3)).heap.size = w.heap.size + 4 := by rw [World.size_alloc, z3]
  rw [z3] at B4
  generalize w3.alloc (.cells #[.int .i64 0] 3) = w4 at *
  have B5 := Box.new w4 46 #[.int .i64 (-1), .slice (some ⟨w.heap.size + 1 + 1, 0, none⟩) 1 1, .bool false, .int .i64 0, .int .i64 (-1), .slice (some ⟨w.heap.size + 1 + 1 + 1, 0, none⟩) 1 1, .bool false, .int .i64 0]
  rw [z4] at B5
  have L5 := L4.alloc L4.size (.cells #[.int .i64 (-1), .slice (some ⟨w.heap.size + 1 + 1, 0, none⟩) 1 1, .bool false, .int .i64 0, .int .i64 (-1), .slice (some ⟨w.heap.size + 1 + 1 + 1, 0, none⟩) 1 1, .bool false, .int .i64 0] 46)
  have O2 := box_owns (B2.alloc (.cells #[.int .i64 (-1), .slice (some ⟨w.heap.size + 1 + 1, 0, none⟩) 1 1, .bool false, .int .i64 0, .int .i64 (-1), .slice (some ⟨w.heap.size + 1 + 1 + 1, 0, none⟩) 1 1, .bool false, .int .i64 0] 46)) (base := w.heap.size) (by omega) 1 (by decide) (size := 2) rfl
  have O3 := box_owns (B3.alloc (.cells #[.int .i64 (-1), .slice (some ⟨w.heap.size + 1 + 1, 0, none⟩) 1 1, .bool false, .int .i64 0, .int .i64 (-1), .slice (some ⟨w.heap.size + 1 + 1 + 1, 0, none⟩) 1 1, .bool false, .int .i64 0] 46)) (base := w.heap.size) (by omega) 1 (by decide) (size := 1) rfl
  have O4 := box_owns (B4.alloc (.cells #[.int .i64 (-1), .slice (some ⟨w.heap.size + 1 + 1, 0, none⟩) 1 1, .bool false, .int .i64 0, .int .i64 (-1), .slice (some ⟨w.heap.size + 1 + 1 + 1, 0, none⟩) 1 1, .bool false, .int .i64 0] 46)) (base := w.heap.size) (by omega) 1 (by decide) (size := 1) rfl
  have O5 := box_owns B5 (base := w.heap.size) (by omega) 2 (by decide) (size := 4) rfl
  replace B1 := B1.alloc (.cells #[.int .i64 (-1), .slice (some ⟨w.heap.size + 1 + 1, 0, none⟩) 1 1, .bool false, .int .i64 0, .int .i64 (-1), .slice (some ⟨w.heap.size + 1 + 1 + 1, 0, none⟩) 1 1, .bool false, .int .i64 0] 46)
  exact bodyPost_ret (results_cell (by rfl) _ _ B1 Tryz.underlying31 rfl (by kernel_rfl) rfl) rfl ⟨⟨some ⟨w.heap.size + 1, 0, none⟩, 1, none, 0, none, 0, some ⟨w.heap.size + 4, 0, none⟩, 2, none, 0, none, 0, none, 0, none, 0⟩, _, rfl, first_own O2 O3 O4 (by omega) O5, L5⟩
end Go.Proofs.YtocjfjikkdpfdaaGreatDoor.LedW
