/- The walks of layer 12: the tables, Shift, Point. -/
import Derived.Test.YtjfcghbifhmacaaDoorOptUnit
namespace Go.Proofs.YtjfcghbifhmacaaDoor.GridW
open Go.RowKit Go.Proofs.YtjfcghbifhmacaaDoor.Bas Go.Proofs.YtjfcghbifhmacaaDoor.FixpM Go.Proofs.YtjfcghbifhmacaaDoor.FixpW Go.Proofs.YtjfcghbifhmacaaDoor.FixpR Go.Proofs.YtjfcghbifhmacaaDoor.OptW

def shifts : List Int := [-2000, -1000, -500, 0, 500, 1000, 2000]
def vols : List Int := [-2500, 0, 2500]
/-- the two tables read as the program's text lays them -/
structure Tab (w : World) : Prop where
  shift : ∀ i : Nat, i < 7 → w.cell? ⟨0, i, none⟩ = some (.int .i64 (shifts.getD i 0))
  vol : ∀ i : Nat, i < 3 → w.cell? ⟨1, i, none⟩ = some (.int .i64 (vols.getD i 0))

def shiftOf (s : Nat) : Int := shifts.getD (s / 3) 0
def volOf (s : Nat) : Int := vols.getD (s % 3) 0

def scenIn (p v s : Int) : Bool := decide (0 ≤ s ∧ s ≤ 20) && (decide (0 ≤ p ∧ p ≤ 1000000000000) && decide (0 ≤ v ∧ v ≤ 50000))
def placeIn (p v : Int) : Bool := decide (0 ≤ p ∧ p ≤ 1000000000000) && decide (0 ≤ v ∧ v ≤ 50000)

theorem rfits_calls' (p v : Int) (w : World) :
    Calls Tryd.prog 20 #[.int .i64 p, .int .i64 v] w fun e w' => e = .returned (.bool (placeIn p v)) ∧ w = w' := by
  by_cases h1 : 0 ≤ p <;> by_cases h2 : p ≤ 1000000000000 <;> by_cases h3 : 0 ≤ v <;> by_cases h4 : v ≤ 50000
  all_goals
    go_enter Tryd.func20, Tryd.ntmps20
    go_wp2_with fail
    go_ret
    exact ⟨ret_bool (by simp only [placeIn]; rw [Bool.eq_iff_iff]; simp; omega), rfl⟩

set_option maxHeartbeats 2000000 in
theorem shift_calls (s : Nat) (w : World) (hs : s < 21) :
    Calls Tryd.prog 16 #[.int .i64 s] w fun e w' => e = .returned (.agg #[.int .i64 (shiftOf s), .int .i64 (volOf s)]) ∧ Below w.heap.size w w' := by
  have hB := Lib.hid (fun u v : Value => (((Below.refl w.heap.size w).alloc (Nat.le_refl _) (.cells #[u, v] 39))))
  have go : ∀ (n : Int) (a b : Int), n = (s : Int) → shiftOf s = a → volOf s = b → Calls Tryd.prog 16 #[.int .i64 n] w (fun e w' => e = .returned (.agg #[.int .i64 a, .int .i64 b]) ∧ Below w.heap.size w w') →
      Calls Tryd.prog 16 #[.int .i64 s] w fun e w' => e = .returned (.agg #[.int .i64 (shiftOf s), .int .i64 (volOf s)]) ∧ Below w.heap.size w w' := by
    intro n a b h1 h2 h3 h
    rw [h2, h3, ← h1]; exact h
  have hcases : s = 0 ∨ s = 1 ∨ s = 2 ∨ s = 3 ∨ s = 4 ∨ s = 5 ∨ s = 6 ∨ s = 7 ∨ s = 8 ∨ s = 9 ∨ s = 10 ∨ s = 11 ∨ s = 12 ∨ s = 13 ∨ s = 14 ∨ s = 15 ∨ s = 16 ∨ s = 17 ∨ s = 18 ∨ s = 19 ∨ s = 20 := by omega
  rcases hcases with rfl | rfl | rfl | rfl | rfl | rfl | rfl | rfl | rfl | rfl | rfl | rfl | rfl | rfl | rfl | rfl | rfl | rfl | rfl | rfl | rfl
  all_goals
    refine go _ _ _ rfl rfl rfl ?_
    go_enter Tryd.func16, Tryd.ntmps16
    go_wp2_with fail
    refine bodyPost_ret (v := .agg #[.int .i64 _, .int .i64 _]) (by simp [results, Tryd.results16, go_sem]; exact ⟨rfl, rfl⟩) rfl ⟨rfl, ?_⟩
    exact hB.out _ _
end Go.Proofs.YtjfcghbifhmacaaDoor.GridW
