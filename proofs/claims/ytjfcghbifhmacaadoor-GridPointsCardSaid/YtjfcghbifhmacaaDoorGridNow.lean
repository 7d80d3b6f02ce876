/- Now, Worst, and the laws' first call. -/
import Derived.Test.YtjfcghbifhmacaaDoorGridUnit
namespace Go.Proofs.YtjfcghbifhmacaaDoor.GridW
open Go.RowKit Go.Proofs.YtjfcghbifhmacaaDoor.Bas Go.Proofs.YtjfcghbifhmacaaDoor.FixpM Go.Proofs.YtjfcghbifhmacaaDoor.FixpW Go.Proofs.YtjfcghbifhmacaaDoor.FixpR Go.Proofs.YtjfcghbifhmacaaDoor.OptW

def nowF (k s x : Int) (c : Bool) (p v d : Int) : Int × Int := if placeIn p v then unitF k s x c p v d else (0, 1)
theorem placeIn_no {p v : Int} (h : placeIn p v = false) : p < 0 ∨ (¬ p < 0 ∧ 1000000000000 < p) ∨ (¬ p < 0 ∧ ¬ 1000000000000 < p ∧ v < 0) ∨ (¬ p < 0 ∧ ¬ 1000000000000 < p ∧ ¬ v < 0 ∧ 50000 < v) := by
  simp [placeIn] at h; omega
theorem placeIn_yes {p v : Int} (h : placeIn p v = true) : 0 ≤ p ∧ p ≤ 1000000000000 ∧ 0 ≤ v ∧ v ≤ 50000 := by
  simp [placeIn] at h; omega

set_option maxHeartbeats 1000000 in
theorem now_calls (k u m s x : Int) (c : Bool) (r : Int) (n : ByteArray) (cu p v d : Int) (w : World) :
    Calls Tryd.prog 11 #[instrV k u m s x c r, underV n cu p v, .int .i64 d] w fun e w' =>
      e = .returned (.tuple #[.int .i64 (nowF k s x c p v d).1, .int .i64 (nowF k s x c p v d).2]) ∧ Below w.heap.size w w' := by
  unfold instrV underV
  have X := four_new w #[.int .i64 k, .int .i64 u, .int .i64 m, .int .i64 s, .int .i64 x, .bool c, .int .i64 r] #[.string n, .int .i64 cu, .int .i64 p, .int .i64 v] #[] #[]
  have hB : Below w.heap.size w ((w.alloc (.cells #[.int .i64 k, .int .i64 u, .int .i64 m, .int .i64 s, .int .i64 x, .bool c, .int .i64 r] 23)).alloc (.cells #[.string n, .int .i64 cu, .int .i64 p, .int .i64 v] 25)) := ((Below.refl _ _).alloc (Nat.le_refl _) _).alloc (by simp) _
  clear X
  by_cases hp : placeIn p v = true
  · have E := Lib.hid (show nowF k s x c p v d = unitF k s x c p v d by unfold nowF; rw [if_pos hp])
    have hU := fun W => unit_calls k u m s x c r p v d W
    unfold instrV at hU
    generalize unitF k s x c p v d = q at hU E
    have HU := Lib.hid hU
    have hp' := placeIn_yes hp
    clear hU hp
    go_enter Tryd.func11, Tryd.ntmps11
    go_wp2_with (go_at_call 18; refine (HU.out _).mono ?_; rintro e w1 ⟨rfl, b1⟩)
    go_ret2
    exact ⟨by rw [E.out]; exact ret_pair rfl rfl, hB.trans (b1.mono hB.size)⟩
  · have hf : placeIn p v = false := by simpa using hp
    have E := Lib.hid (show nowF k s x c p v d = (0, 1) by unfold nowF; rw [if_neg hp])
    clear hp
    rcases placeIn_no hf with h | ⟨h1, h⟩ | ⟨h1, h2, h⟩ | ⟨h1, h2, h3, h⟩
    all_goals
      clear hf
      go_enter Tryd.func11, Tryd.ntmps11
      go_wp2_with fail
      go_ret2
      exact ⟨by rw [E.out]; exact ret_pair rfl rfl, hB⟩

set_option maxHeartbeats 1000000 in
theorem rnow_calls (k u m s x : Int) (c : Bool) (r : Int) (n : ByteArray) (cu p v d : Int) (w : World) :
    Calls Tryd.prog 12 #[instrV k u m s x c r, underV n cu p v, .int .i64 d] w fun e w' =>
      e = .returned (.tuple #[.int .i64 (nowF k s x c p v d).1, .int .i64 (nowF k s x c p v d).2]) ∧ Below w.heap.size w w' := by
  unfold instrV underV
  have hB : Below w.heap.size w ((w.alloc (.cells #[.int .i64 k, .int .i64 u, .int .i64 m, .int .i64 s, .int .i64 x, .bool c, .int .i64 r] 23)).alloc (.cells #[.string n, .int .i64 cu, .int .i64 p, .int .i64 v] 25)) := ((Below.refl _ _).alloc (Nat.le_refl _) _).alloc (by simp) _
  have F := fun W => rfits_calls' p v W
  by_cases hp : placeIn p v = true
  · have E := Lib.hid (show nowF k s x c p v d = unitF k s x c p v d by unfold nowF; rw [if_pos hp])
    have hU := fun W => runit_calls k u m s x c r p v d W
    unfold instrV at hU
    generalize unitF k s x c p v d = q at hU E
    have HU := Lib.hid hU
    rw [hp] at F
    have HF := Lib.hid F
    clear hU hp F
    go_enter Tryd.func12, Tryd.ntmps12
    go_wp2_with (first | (go_at_call 20; refine (HF.out _).mono ?_; rintro e w' ⟨rfl, rfl⟩) | (go_at_call 19; refine (HU.out _).mono ?_; rintro e w1 ⟨rfl, b1⟩))
    go_ret2
    exact ⟨by rw [E.out]; exact ret_pair rfl rfl, hB.trans (b1.mono hB.size)⟩
  · have hf : placeIn p v = false := by simpa using hp
    have E := Lib.hid (show nowF k s x c p v d = (0, 1) by unfold nowF; rw [if_neg hp])
    rw [hf] at F
    have HF := Lib.hid F
    clear hp hf F
    go_enter Tryd.func12, Tryd.ntmps12
    go_wp2_with (go_at_call 20; refine (HF.out _).mono ?_; rintro e w' ⟨rfl, rfl⟩)
    go_ret2
    exact ⟨by rw [E.out]; exact ret_pair rfl rfl, hB⟩

/-- an array laid into a variable of its own -/
def laidW (w : World) (L : List Int) : World := (w.alloc (.cells #[.int .i64 0, .int .i64 0, .int .i64 0, .int .i64 0, .int .i64 0, .int .i64 0, .int .i64 0, .int .i64 0, .int .i64 0, .int .i64 0, .int .i64 0, .int .i64 0, .int .i64 0, .int .i64 0, .int .i64 0, .int .i64 0, .int .i64 0, .int .i64 0, .int .i64 0, .int .i64 0, .int .i64 0] 27)).setRow w.heap.size (i64s L).toArray
theorem laid_box (w : World) (L : List Int) : Box (laidW w L) w.heap.size 27 (i64s L).toArray := (Box.new w _ _).row _
theorem laid_below (w : World) (L : List Int) : Below w.heap.size w (laidW w L) := below_setRow ((Below.refl _ _).alloc (Nat.le_refl _) _) (Nat.le_refl _) _
theorem laid_size (w : World) (L : List Int) : (laidW w L).heap.size = w.heap.size + 1 := by simp [laidW]

/-- what wakes asks -/
def fW : Nat → Int × Int := scenF 1 0 0 false 100 0 0
def lW : List Int := [80, 80, 80, 90, 90, 90, 95, 95, 95, 100, 100, 100, 105, 105, 105, 110, 110, 110, 120, 120, 120]
theorem fW_units : unitsF fW = lW ∧ errAt fW 21 = 0 := by decide
theorem pW : pointF 105 3650 0 = (84, 2737, 0) := by decide

set_option maxHeartbeats 1000000 in
set_option maxRecDepth 100000 in
theorem wakes_calls (w : World) (ht : Tab w) : Calls Tryd.prog 8 #[] w fun e w' => e = .returned (.bool true) ∧ Below w.heap.size w w' := by
  have hP := fun W (h : Tab W) => point_calls 105 3650 0 W h
  rw [pW] at hP
  have hU := fun W (h : Tab W) => units_calls 1 0 0 0 0 false 0 ⟨#[]⟩ 0 100 0 0 W h
  rw [show scenF 1 0 0 false 100 0 0 = fW from rfl, fW_units.1, fW_units.2] at hU
  unfold instrV underV at hU
  have HP := Lib.hid hP
  have HU := Lib.hid hU
  have HT := Lib.hid ht
  clear hP hU ht
  go_enter Tryd.func8, Tryd.ntmps8
  go_wp2_with (first | (go_at_call 13; refine (HP.out _ HT.out).mono ?_; rintro e w' ⟨rfl, n1, rfl⟩) | (go_at_call 9; refine (HU.out _ (HT.out.drewN n1)).mono ?_; rintro e w1 ⟨rfl, b1⟩; clear HU; have hB1 := below_drewN (Below.refl w.heap.size w) n1; have hB2 := hB1.trans (b1.mono hB1.size); have X1 := laid_box w1 lW; have B1 := laid_below w1 lW) | ((with_reducible refine wpList_store_box rfl 27 (.tmp 4) (.tmp 15) rfl (i64s lW).toArray (Box.new w1 27 _) ?_ ?_ ?_ ?_ ?_ ?_); (· exact size21 _ (by simp [i64s, lW])); (· simp [i64s, lW]); (· exact all_one_i64 _); (· rfl); (· rfl); (change wpList _ _ _ _ _ (laidW w1 lW)); (generalize laidW w1 lW = W1 at X1 B1 ⊢); have g0 : W1.cell? ⟨w1.heap.size, 0, none⟩ = some (.int .i64 80) := X1.cell 0; have g1 : W1.cell? ⟨w1.heap.size, 10, none⟩ = some (.int .i64 100) := X1.cell 10; have g2 : W1.cell? ⟨w1.heap.size, 20, none⟩ = some (.int .i64 120) := X1.cell 20; clear X1))
  go_ret
  exact ⟨rfl, hB2.trans (B1.mono hB2.size)⟩
end Go.Proofs.YtjfcghbifhmacaaDoor.GridW
