/- The walks of layer 9: within, Cur, Base, Worth. -/
import Derived.Test.YtocjfjikkdpfdaaGreatDoorFixpDocDiv
import Derived.Test.YtocjfjikkdpfdaaGreatDoorFixpLaws
set_option linter.unusedSimpArgs false
set_option linter.unusedVariables false
namespace Go.Proofs.YtocjfjikkdpfdaaGreatDoor.RefW
open Go.RowKit Go.Proofs.YtocjfjikkdpfdaaGreatDoor.Bas Go.Proofs.YtocjfjikkdpfdaaGreatDoor.FixpM Go.Proofs.YtocjfjikkdpfdaaGreatDoor.FixpW Go.Proofs.YtocjfjikkdpfdaaGreatDoor.FixpR

def within (x lo hi : Int) : Bool := decide (lo ≤ x ∧ x ≤ hi)
theorem within_iff (x lo hi : Int) : within x lo hi = true ↔ lo ≤ x ∧ x ≤ hi := by simp [within]
theorem within_no (x lo hi : Int) : within x lo hi = false ↔ x < lo ∨ hi < x := by simp [within]; omega
theorem within_calls (x lo hi : Int) (w : World) :
    Calls Tryz.prog 88 #[.int .i64 x, .int .i64 lo, .int .i64 hi] w fun e w' => e = .returned (.bool (within x lo hi)) ∧ w = w' := by
  go_enter Tryz.func88, Tryz.ntmps88
  go_wp2_with fail
  all_goals
    go_ret
    exact ⟨ret_bool (by simp only [within]; rw [Bool.eq_iff_iff]; simp; omega), rfl⟩

def curV (r h : Int) : Value := .agg #[.int .i64 r, .int .i64 h]
/-- can the currency be? -/
def curF (r h n : Int) : Bool := (decide (n ≠ 0) || decide (r = 1000000)) && (within r 1 1000000000000 && within h 0 10000)
theorem curF_iff (r h n : Int) : curF r h n = true ↔ (n ≠ 0 ∨ r = 1000000) ∧ (1 ≤ r ∧ r ≤ 1000000000000) ∧ 0 ≤ h ∧ h ≤ 10000 := by simp [curF, within]
theorem rcur_calls (r h n : Int) (w : World) :
    Calls Tryz.prog 50 #[curV r h, .int .i64 n] w fun e w' => e = .returned (.bool (curF r h n)) ∧ Below w.heap.size w w' := by
  unfold curV
  have hB : Below w.heap.size w (w.alloc (.cells #[.int .i64 r, .int .i64 h] 55)) := (Below.refl _ _).alloc (Nat.le_refl _) _
  go_enter Tryz.func50, Tryz.ntmps50
  go_wp2_with fail
  all_goals
    go_ret
    exact ⟨ret_bool (by rw [Bool.eq_iff_iff, curF_iff]; simp; try omega), hB⟩
theorem cur_calls (r h n : Int) (w : World) :
    Calls Tryz.prog 60 #[curV r h, .int .i64 n] w fun e w' => e = .returned (.bool (curF r h n)) ∧ Below w.heap.size w w' := by
  unfold curV
  have hB : Below w.heap.size w (w.alloc (.cells #[.int .i64 r, .int .i64 h] 55)) := (Below.refl _ _).alloc (Nat.le_refl _) _
  go_enter Tryz.func60, Tryz.ntmps60
  go_wp2_with (go_at_call 88; refine (within_calls _ _ _ _).mono ?_; rintro e w' ⟨rfl, rfl⟩)
  all_goals
    go_ret
    exact ⟨ret_bool (by rw [Bool.eq_iff_iff, curF_iff]; simp_all [within_iff]; try omega), hB⟩

/-- an amount in the base currency, and the error -/
def baseF (r h a m : Int) : Int × Int := if curF r h 1 then mulDivF a r 1000000 m else (0, 30)
def worthF (r h a : Int) : Int × Int :=
  if (baseF r h a 0).2 = 0 then mulDivF (baseF r h a 0).1 (if (baseF r h a 0).1 < 0 then 10000 + h else 10000 - h) 10000 0 else (0, (baseF r h a 0).2)

theorem base_ok {r h a m : Int} (he : (baseF r h a m).2 = 0) : fits (baseF r h a m).1 = true ∧ 0 ≤ h ∧ h ≤ 10000 ∧ -4611686018427387904 ≤ (baseF r h a m).1 ∧ (baseF r h a m).1 ≤ 4611686018427387904 := by
  unfold baseF at *
  by_cases hc : curF r h 1 = true
  · rw [if_pos hc] at he ⊢
    have hh := (curF_iff r h 1).1 hc
    have hf : fits (mulDivF a r 1000000 m).1 = true := by
      rcases two_mulDivF a r 1000000 m with h1 | h1 | h1
      · rw [h1] at he; simp at he
      · rw [h1] at he; simp at he
      · exact h1.2
    have := (fits_iff _).1 hf
    exact ⟨hf, hh.2.2.1, hh.2.2.2, this.1, this.2⟩
  · rw [if_neg hc] at he; simp at he

end Go.Proofs.YtocjfjikkdpfdaaGreatDoor.RefW
