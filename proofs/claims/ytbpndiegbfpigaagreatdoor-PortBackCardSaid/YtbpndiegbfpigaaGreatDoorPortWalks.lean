/- The walks of the port's switches: tags, at, types, Of. -/
import Derived.Test.YtbpndiegbfpigaaGreatDoorPortMath
import Derived.Test.YtbpndiegbfpigaaGreatDoorDecRef
namespace Go.Proofs.YtbpndiegbfpigaaGreatDoor.PortW
open Go.RowKit Go.Proofs.YtbpndiegbfpigaaGreatDoor.Bas Go.Proofs.YtbpndiegbfpigaaGreatDoor.DecM Go.Proofs.YtbpndiegbfpigaaGreatDoor.FixpM Go.Proofs.YtbpndiegbfpigaaGreatDoor.FixpW Go.Proofs.YtbpndiegbfpigaaGreatDoor.DecW Go.Proofs.YtbpndiegbfpigaaGreatDoor.FldW Go.Proofs.YtbpndiegbfpigaaGreatDoor.PortM

def Ev.cells (v : Ev) : Array Value := #[.int .i64 v.kind, .int .i64 v.acct, .int .i64 v.id, .int .i64 v.new, .int .i64 v.instr, .int .i64 v.under, .int .i64 v.cur, .int .i64 v.qty, .int .i64 v.price, .int .i64 v.amount, .bool v.call, .string ⟨v.name.toArray⟩]
theorem place_get (v : Ev) (t : Int) : (Ev.cells v)[place t]? = some (.int .i64 (num v t)) := by
  unfold place num Ev.cells
  (repeat' split) <;> first | rfl | omega | (simp_all; done)
set_option maxHeartbeats 2000000 in
theorem tags_calls (k : Int) (w : World) :
    Calls Tryz.prog 16 #[.int .i64 k] w fun e w' => ∃ a cap, e = .returned (.slice a (tagsF k).length cap) ∧ At w' a (i64s (tagsF k)) ∧ (∀ b off s, a = some ⟨b, off, s⟩ → w.heap.size ≤ b) ∧ Below w.heap.size w w' := by
  by_cases h1 : k = 1
  · subst h1
    rw [show tagsF 1 = [1, 11, 55, 38, 44] from rfl]
    go_enter Tryz.func16, Tryz.ntmps16
    go_wp2_with fail
    go_ret
    exact ⟨_, _, rfl, at_alloc w _ _ _, (fun b off s e => by cases e; exact Nat.le_refl _), (Below.refl _ _).alloc (Nat.le_refl _) _⟩
  by_cases h2 : k = 2
  · subst h2
    rw [show tagsF 2 = [1, 11] from rfl]
    go_enter Tryz.func16, Tryz.ntmps16
    go_wp2_with fail
    go_ret
    exact ⟨_, _, rfl, at_alloc w _ _ _, (fun b off s e => by cases e; exact Nat.le_refl _), (Below.refl _ _).alloc (Nat.le_refl _) _⟩
  by_cases h3 : k = 3
  · subst h3
    rw [show tagsF 3 = [1, 11, 41, 38, 44] from rfl]
    go_enter Tryz.func16, Tryz.ntmps16
    go_wp2_with fail
    go_ret
    exact ⟨_, _, rfl, at_alloc w _ _ _, (fun b off s e => by cases e; exact Nat.le_refl _), (Below.refl _ _).alloc (Nat.le_refl _) _⟩
  by_cases h4 : k = 4
  · subst h4
    rw [show tagsF 4 = [1, 11, 38, 44] from rfl]
    go_enter Tryz.func16, Tryz.ntmps16
    go_wp2_with fail
    go_ret
    exact ⟨_, _, rfl, at_alloc w _ _ _, (fun b off s e => by cases e; exact Nat.le_refl _), (Below.refl _ _).alloc (Nat.le_refl _) _⟩
  by_cases h5 : k = 5
  · subst h5
    rw [show tagsF 5 = [311, 44, 12] from rfl]
    go_enter Tryz.func16, Tryz.ntmps16
    go_wp2_with fail
    go_ret
    exact ⟨_, _, rfl, at_alloc w _ _ _, (fun b off s e => by cases e; exact Nat.le_refl _), (Below.refl _ _).alloc (Nat.le_refl _) _⟩
  by_cases h6 : k = 6
  · subst h6
    rw [show tagsF 6 = [15, 44, 12] from rfl]
    go_enter Tryz.func16, Tryz.ntmps16
    go_wp2_with fail
    go_ret
    exact ⟨_, _, rfl, at_alloc w _ _ _, (fun b off s e => by cases e; exact Nat.le_refl _), (Below.refl _ _).alloc (Nat.le_refl _) _⟩
  by_cases h7 : k = 7
  · subst h7
    rw [show tagsF 7 = [1, 15, 12] from rfl]
    go_enter Tryz.func16, Tryz.ntmps16
    go_wp2_with fail
    go_ret
    exact ⟨_, _, rfl, at_alloc w _ _ _, (fun b off s e => by cases e; exact Nat.le_refl _), (Below.refl _ _).alloc (Nat.le_refl _) _⟩
  by_cases h8 : k = 8
  · subst h8
    rw [show tagsF 8 = [1] from rfl]
    go_enter Tryz.func16, Tryz.ntmps16
    go_wp2_with fail
    go_ret
    exact ⟨_, _, rfl, at_alloc w _ _ _, (fun b off s e => by cases e; exact Nat.le_refl _), (Below.refl _ _).alloc (Nat.le_refl _) _⟩
  by_cases h9 : k = 9
  · subst h9
    rw [show tagsF 9 = [107, 15, 44, 12] from rfl]
    go_enter Tryz.func16, Tryz.ntmps16
    go_wp2_with fail
    go_ret
    exact ⟨_, _, rfl, at_alloc w _ _ _, (fun b off s e => by cases e; exact Nat.le_refl _), (Below.refl _ _).alloc (Nat.le_refl _) _⟩
  by_cases h10 : k = 10
  · subst h10
    rw [show tagsF 10 = [41, 311, 38, 44, 12, 201] from rfl]
    go_enter Tryz.func16, Tryz.ntmps16
    go_wp2_with fail
    go_ret
    exact ⟨_, _, rfl, at_alloc w _ _ _, (fun b off s e => by cases e; exact Nat.le_refl _), (Below.refl _ _).alloc (Nat.le_refl _) _⟩
  by_cases h11 : k = 11
  · subst h11
    rw [show tagsF 11 = [55, 38] from rfl]
    go_enter Tryz.func16, Tryz.ntmps16
    go_wp2_with fail
    go_ret
    exact ⟨_, _, rfl, at_alloc w _ _ _, (fun b off s e => by cases e; exact Nat.le_refl _), (Below.refl _ _).alloc (Nat.le_refl _) _⟩
  by_cases h12 : k = 12
  · subst h12
    rw [show tagsF 12 = [1, 55, 38] from rfl]
    go_enter Tryz.func16, Tryz.ntmps16
    go_wp2_with fail
    go_ret
    exact ⟨_, _, rfl, at_alloc w _ _ _, (fun b off s e => by cases e; exact Nat.le_refl _), (Below.refl _ _).alloc (Nat.le_refl _) _⟩
  by_cases h13 : k = 13
  · subst h13
    rw [show tagsF 13 = [311, 41, 11] from rfl]
    go_enter Tryz.func16, Tryz.ntmps16
    go_wp2_with fail
    go_ret
    exact ⟨_, _, rfl, at_alloc w _ _ _, (fun b off s e => by cases e; exact Nat.le_refl _), (Below.refl _ _).alloc (Nat.le_refl _) _⟩
  by_cases h14 : k = 14
  · subst h14
    rw [show tagsF 14 = [311, 12] from rfl]
    go_enter Tryz.func16, Tryz.ntmps16
    go_wp2_with fail
    go_ret
    exact ⟨_, _, rfl, at_alloc w _ _ _, (fun b off s e => by cases e; exact Nat.le_refl _), (Below.refl _ _).alloc (Nat.le_refl _) _⟩
  by_cases h15 : k = 15
  · subst h15
    rw [show tagsF 15 = [311, 107] from rfl]
    go_enter Tryz.func16, Tryz.ntmps16
    go_wp2_with fail
    go_ret
    exact ⟨_, _, rfl, at_alloc w _ _ _, (fun b off s e => by cases e; exact Nat.le_refl _), (Below.refl _ _).alloc (Nat.le_refl _) _⟩
  rw [show tagsF k = [] by unfold tagsF; simp [h1, h2, h3, h4, h5, h6, h7, h8, h9, h10, h11, h12, h13, h14, h15]]
  go_enter Tryz.func16, Tryz.ntmps16
  go_wp2_with fail
  go_ret
  exact ⟨_, _, rfl, At.nil _ _, (fun _ _ _ e => by cases e), Below.refl _ _⟩
set_option maxHeartbeats 2000000 in
theorem rtags_calls (k : Int) (w : World) :
    Calls Tryz.prog 22 #[.int .i64 k] w fun e w' => ∃ a cap, e = .returned (.slice a (tagsF k).length cap) ∧ At w' a (i64s (tagsF k)) ∧ (∀ b off s, a = some ⟨b, off, s⟩ → w.heap.size ≤ b) ∧ Below w.heap.size w w' := by
  by_cases h1 : k = 1
  · subst h1
    rw [show tagsF 1 = [1, 11, 55, 38, 44] from rfl]
    go_enter Tryz.func22, Tryz.ntmps22
    go_wp2_with fail
    go_ret
    exact ⟨_, _, rfl, at_alloc w _ _ _, (fun b off s e => by cases e; exact Nat.le_refl _), (Below.refl _ _).alloc (Nat.le_refl _) _⟩
  by_cases h2 : k = 2
  · subst h2
    rw [show tagsF 2 = [1, 11] from rfl]
    go_enter Tryz.func22, Tryz.ntmps22
    go_wp2_with fail
    go_ret
    exact ⟨_, _, rfl, at_alloc w _ _ _, (fun b off s e => by cases e; exact Nat.le_refl _), (Below.refl _ _).alloc (Nat.le_refl _) _⟩
  by_cases h3 : k = 3
  · subst h3
    rw [show tagsF 3 = [1, 11, 41, 38, 44] from rfl]
    go_enter Tryz.func22, Tryz.ntmps22
    go_wp2_with fail
    go_ret
    exact ⟨_, _, rfl, at_alloc w _ _ _, (fun b off s e => by cases e; exact Nat.le_refl _), (Below.refl _ _).alloc (Nat.le_refl _) _⟩
  by_cases h4 : k = 4
  · subst h4
    rw [show tagsF 4 = [1, 11, 38, 44] from rfl]
    go_enter Tryz.func22, Tryz.ntmps22
    go_wp2_with fail
    go_ret
    exact ⟨_, _, rfl, at_alloc w _ _ _, (fun b off s e => by cases e; exact Nat.le_refl _), (Below.refl _ _).alloc (Nat.le_refl _) _⟩
  by_cases h5 : k = 5
  · subst h5
    rw [show tagsF 5 = [311, 44, 12] from rfl]
    go_enter Tryz.func22, Tryz.ntmps22
    go_wp2_with fail
    go_ret
    exact ⟨_, _, rfl, at_alloc w _ _ _, (fun b off s e => by cases e; exact Nat.le_refl _), (Below.refl _ _).alloc (Nat.le_refl _) _⟩
  by_cases h6 : k = 6
  · subst h6
    rw [show tagsF 6 = [15, 44, 12] from rfl]
    go_enter Tryz.func22, Tryz.ntmps22
    go_wp2_with fail
    go_ret
    exact ⟨_, _, rfl, at_alloc w _ _ _, (fun b off s e => by cases e; exact Nat.le_refl _), (Below.refl _ _).alloc (Nat.le_refl _) _⟩
  by_cases h7 : k = 7
  · subst h7
    rw [show tagsF 7 = [1, 15, 12] from rfl]
    go_enter Tryz.func22, Tryz.ntmps22
    go_wp2_with fail
    go_ret
    exact ⟨_, _, rfl, at_alloc w _ _ _, (fun b off s e => by cases e; exact Nat.le_refl _), (Below.refl _ _).alloc (Nat.le_refl _) _⟩
  by_cases h8 : k = 8
  · subst h8
    rw [show tagsF 8 = [1] from rfl]
    go_enter Tryz.func22, Tryz.ntmps22
    go_wp2_with fail
    go_ret
    exact ⟨_, _, rfl, at_alloc w _ _ _, (fun b off s e => by cases e; exact Nat.le_refl _), (Below.refl _ _).alloc (Nat.le_refl _) _⟩
  by_cases h9 : k = 9
  · subst h9
    rw [show tagsF 9 = [107, 15, 44, 12] from rfl]
    go_enter Tryz.func22, Tryz.ntmps22
    go_wp2_with fail
    go_ret
    exact ⟨_, _, rfl, at_alloc w _ _ _, (fun b off s e => by cases e; exact Nat.le_refl _), (Below.refl _ _).alloc (Nat.le_refl _) _⟩
  by_cases h10 : k = 10
  · subst h10
    rw [show tagsF 10 = [41, 311, 38, 44, 12, 201] from rfl]
    go_enter Tryz.func22, Tryz.ntmps22
    go_wp2_with fail
    go_ret
    exact ⟨_, _, rfl, at_alloc w _ _ _, (fun b off s e => by cases e; exact Nat.le_refl _), (Below.refl _ _).alloc (Nat.le_refl _) _⟩
  by_cases h11 : k = 11
  · subst h11
    rw [show tagsF 11 = [55, 38] from rfl]
    go_enter Tryz.func22, Tryz.ntmps22
    go_wp2_with fail
    go_ret
    exact ⟨_, _, rfl, at_alloc w _ _ _, (fun b off s e => by cases e; exact Nat.le_refl _), (Below.refl _ _).alloc (Nat.le_refl _) _⟩
  by_cases h12 : k = 12
  · subst h12
    rw [show tagsF 12 = [1, 55, 38] from rfl]
    go_enter Tryz.func22, Tryz.ntmps22
    go_wp2_with fail
    go_ret
    exact ⟨_, _, rfl, at_alloc w _ _ _, (fun b off s e => by cases e; exact Nat.le_refl _), (Below.refl _ _).alloc (Nat.le_refl _) _⟩
  by_cases h13 : k = 13
  · subst h13
    rw [show tagsF 13 = [311, 41, 11] from rfl]
    go_enter Tryz.func22, Tryz.ntmps22
    go_wp2_with fail
    go_ret
    exact ⟨_, _, rfl, at_alloc w _ _ _, (fun b off s e => by cases e; exact Nat.le_refl _), (Below.refl _ _).alloc (Nat.le_refl _) _⟩
  by_cases h14 : k = 14
  · subst h14
    rw [show tagsF 14 = [311, 12] from rfl]
    go_enter Tryz.func22, Tryz.ntmps22
    go_wp2_with fail
    go_ret
    exact ⟨_, _, rfl, at_alloc w _ _ _, (fun b off s e => by cases e; exact Nat.le_refl _), (Below.refl _ _).alloc (Nat.le_refl _) _⟩
  by_cases h15 : k = 15
  · subst h15
    rw [show tagsF 15 = [311, 107] from rfl]
    go_enter Tryz.func22, Tryz.ntmps22
    go_wp2_with fail
    go_ret
    exact ⟨_, _, rfl, at_alloc w _ _ _, (fun b off s e => by cases e; exact Nat.le_refl _), (Below.refl _ _).alloc (Nat.le_refl _) _⟩
  rw [show tagsF k = [] by unfold tagsF; simp [h1, h2, h3, h4, h5, h6, h7, h8, h9, h10, h11, h12, h13, h14, h15]]
  go_enter Tryz.func22, Tryz.ntmps22
  go_wp2_with fail
  go_ret
  exact ⟨_, _, rfl, At.nil _ _, (fun _ _ _ e => by cases e), Below.refl _ _⟩
set_option maxHeartbeats 2000000 in
theorem at_calls (g : Nat) (t : Int) (w : World) :
    Calls Tryz.prog 19 #[.pointer (some ⟨g, 0, none⟩), .int .i64 t] w fun e w' => e = .returned (.pointer (some ⟨g, place t, none⟩)) ∧ w = w' := by
  by_cases h1 : t = 1
  · subst h1
    rw [show place 1 = 1 from rfl]
    go_enter Tryz.func19, Tryz.ntmps19
    go_wp2_with fail
    go_ret
    exact ⟨rfl, rfl⟩
  by_cases h11 : t = 11
  · subst h11
    rw [show place 11 = 2 from rfl]
    go_enter Tryz.func19, Tryz.ntmps19
    go_wp2_with fail
    go_ret
    exact ⟨rfl, rfl⟩
  by_cases h12 : t = 12
  · subst h12
    rw [show place 12 = 9 from rfl]
    go_enter Tryz.func19, Tryz.ntmps19
    go_wp2_with fail
    go_ret
    exact ⟨rfl, rfl⟩
  by_cases h15 : t = 15
  · subst h15
    rw [show place 15 = 6 from rfl]
    go_enter Tryz.func19, Tryz.ntmps19
    go_wp2_with fail
    go_ret
    exact ⟨rfl, rfl⟩
  by_cases h38 : t = 38
  · subst h38
    rw [show place 38 = 7 from rfl]
    go_enter Tryz.func19, Tryz.ntmps19
    go_wp2_with fail
    go_ret
    exact ⟨rfl, rfl⟩
  by_cases h41 : t = 41
  · subst h41
    rw [show place 41 = 3 from rfl]
    go_enter Tryz.func19, Tryz.ntmps19
    go_wp2_with fail
    go_ret
    exact ⟨rfl, rfl⟩
  by_cases h44 : t = 44
  · subst h44
    rw [show place 44 = 8 from rfl]
    go_enter Tryz.func19, Tryz.ntmps19
    go_wp2_with fail
    go_ret
    exact ⟨rfl, rfl⟩
  by_cases h55 : t = 55
  · subst h55
    rw [show place 55 = 4 from rfl]
    go_enter Tryz.func19, Tryz.ntmps19
    go_wp2_with fail
    go_ret
    exact ⟨rfl, rfl⟩
  rw [show place t = 5 by unfold place; simp [h1, h11, h12, h15, h38, h41, h44, h55]]
  go_enter Tryz.func19, Tryz.ntmps19
  go_wp2_with fail
  go_ret
  exact ⟨rfl, rfl⟩
def strs (l : List UInt8) : List Value := l.map fun b => .string ⟨#[b]⟩
theorem types_calls (w : World) :
    Calls Tryz.prog 15 #[] w fun e w' => ∃ a cap, e = .returned (.slice a 16 cap) ∧ At w' a (strs kindsL) ∧ Below w.heap.size w w' := by
  go_enter Tryz.func15, Tryz.ntmps15
  go_wp2_with fail
  go_ret
  exact ⟨_, _, rfl, at_alloc w _ _ _, (Below.refl _ _).alloc (Nat.le_refl _) _⟩
theorem ret_int {a b : Int} (h : a = b) : Ending.returned (.int .i64 a) = .returned (.int .i64 b) := by rw [h]
theorem of_calls (k : Int) (w : World) :
    Calls Tryz.prog 14 #[.int .i64 k] w fun e w' => e = .returned (.int .i64 (ofF k)) ∧ w = w' := by
  rcases (by omega : k < 1 ∨ 16 < k ∨ (1 ≤ k ∧ k ≤ 3) ∨ k = 4 ∨ (5 ≤ k ∧ k ≤ 6) ∨ (7 ≤ k ∧ k ≤ 16)) with h | h | h | h | h | h
  · have hv : ofF k = -1 := by unfold ofF; repeat' (first | rfl | omega | split)
    rw [hv]
    clear hv
    go_enter Tryz.func14, Tryz.ntmps14
    go_wp2_with fail
    all_goals
      go_ret
      exact ⟨rfl, rfl⟩
  · have hv : ofF k = -1 := by unfold ofF; repeat' (first | rfl | omega | split)
    rw [hv]
    clear hv
    go_enter Tryz.func14, Tryz.ntmps14
    go_wp2_with fail
    all_goals
      go_ret
      exact ⟨rfl, rfl⟩
  · have hv : ofF k = 0 := by unfold ofF; repeat' (first | rfl | omega | split)
    rw [hv]
    clear hv
    go_enter Tryz.func14, Tryz.ntmps14
    go_wp2_with fail
    all_goals
      go_ret
      exact ⟨rfl, rfl⟩
  · have hv : ofF k = 1 := by unfold ofF; repeat' (first | rfl | omega | split)
    rw [hv]
    subst h; clear hv
    go_enter Tryz.func14, Tryz.ntmps14
    go_wp2_with fail
    all_goals
      go_ret
      exact ⟨rfl, rfl⟩
  · have hv : ofF k = 2 := by unfold ofF; repeat' (first | rfl | omega | split)
    rw [hv]
    have h4 : (k == 4) = false := by simp; omega
    clear hv
    go_enter Tryz.func14, Tryz.ntmps14
    go_wp2_with fail
    all_goals
      go_ret
      exact ⟨rfl, rfl⟩
  · have hv : ofF k = 3 := by unfold ofF; repeat' (first | rfl | omega | split)
    rw [hv]
    have h4 : (k == 4) = false := by simp; omega
    clear hv
    go_enter Tryz.func14, Tryz.ntmps14
    go_wp2_with fail
    all_goals
      go_ret
      exact ⟨rfl, rfl⟩
end Go.Proofs.YtbpndiegbfpigaaGreatDoor.PortW
