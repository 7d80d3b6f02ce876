/- What strconv.Atoi and strconv.Itoa answer at any text and any number, and the cells that they and bytes.Index read. -/
import Derived.Test.YtckcnenhnniogaaDoorTagCut
import Derived.Test.YtckcnenhnniogaaDoorTagSkipMath
set_option linter.unusedSimpArgs false
set_option linter.unusedVariables false
namespace Go.Proofs.YtckcnenhnniogaaDoor.TagW
open Go.RowKit Go.Proofs.YtckcnenhnniogaaDoor.Bas Go.Proofs.YtckcnenhnniogaaDoor.FixpM Go.Proofs.YtckcnenhnniogaaDoor.FixpW Go.Proofs.YtckcnenhnniogaaDoor.DecW Go.Proofs.YtckcnenhnniogaaDoor.FldW Go.Proofs.YtckcnenhnniogaaDoor.TagM

/-- the package variables that are read -/
structure Env (w : World) : Prop where
  ml : ∃ m, w.cell? ⟨1, 0, none⟩ = some (.int .i64 m)
  es : ∃ ev, w.cell? ⟨5, 0, none⟩ = some ev ∧ (ev = .nilIface ∨ ∃ te pe, ev = .iface te pe)
  er : ∃ ev, w.cell? ⟨6, 0, none⟩ = some ev ∧ (ev = .nilIface ∨ ∃ te pe, ev = .iface te pe)
  pw : Pow w
theorem Env.keep {w w' : World} (E : Env w) (b : Below w.heap.size w w') : Env w' := by
  obtain ⟨⟨m, h1⟩, ⟨e1, h2, h3⟩, ⟨e2, h4, h5⟩, h6⟩ := E
  exact ⟨⟨m, (b.cell (World.block_lt_of_cell? w _ h1)).trans h1⟩, ⟨e1, (b.cell (World.block_lt_of_cell? w _ h2)).trans h2, h3⟩, ⟨e2, (b.cell (World.block_lt_of_cell? w _ h4)).trans h4, h5⟩, h6.keep b⟩
theorem tatoi_calls (s : List UInt8) (w : World) (hs : s.length ≤ 281474976710656) (E : Env w) :
    Calls Tryd.prog 45 #[.string ⟨s.toArray⟩] w fun e w' => ∃ x, e = .returned (.tuple #[.int .i64 (atoiN s), x]) ∧ Below w.heap.size w w' := by
  obtain ⟨e1, h2, h3⟩ := E.es
  obtain ⟨e2, h4, h5⟩ := E.er
  have hl : (⟨s.toArray⟩ : ByteArray).data.toList = s := by simp
  have hz : (⟨s.toArray⟩ : ByteArray).size = s.length := rfl
  unfold atoiN
  cases h : Lib.atoiAll s with
  | ok v =>
    refine (Tryd.strconv_Atoi_ok ⟨s.toArray⟩ (by omega) v (by rw [hl]; exact h) w).mono ?_
    rintro e w' ⟨rfl, hw⟩
    refine ⟨_, rfl, ?_⟩
    rcases hw with rfl | ⟨t, rfl⟩
    · exact Below.refl _ _
    · exact Lib.bytesWorld_below _ _ _
  | «syntax» =>
    refine (Tryd.strconv_Atoi_syntax ⟨s.toArray⟩ (by omega) (by rw [hl]; exact h) e1 w h2 h3).mono ?_
    rintro e w' ⟨N, rfl, _, _, hb⟩
    exact ⟨_, rfl, hb⟩
  | range =>
    refine (Tryd.strconv_Atoi_range ⟨s.toArray⟩ (by omega) (by rw [hl]; exact h) e2 w h4 h5).mono ?_
    rintro e w' ⟨N, rfl, _, _, hb⟩
    rw [hl]
    exact ⟨_, rfl, hb⟩
theorem titoa_calls (n : Int) (w : World) (h0 : -9223372036854775808 ≤ n) (h1 : n ≤ 9223372036854775807) (E : Env w) :
    Calls Tryd.prog 12 #[.int .i64 n] w fun e w' => e = .returned (.string ⟨(Lib.itoa n).toArray⟩) ∧ Below w.heap.size w w' := by
  refine (Tryd.strconv_Itoa n h0 h1 w E.pw).mono ?_
  rintro e w' ⟨rfl, k, os, rfl⟩
  exact ⟨rfl, Lib.below_grow _ _ (Nat.le_refl _) _ _⟩
theorem atoiN_bounds (s : List UInt8) : -9223372036854775808 ≤ atoiN s ∧ atoiN s ≤ 9223372036854775807 := by
  unfold atoiN
  cases h : Lib.atoiAll s with
  | ok v => have := Lib.atoiAll_bounds h; dsimp only; omega
  | «syntax» => dsimp only; omega
  | range => have := Lib.atoiSat_bounds s; dsimp only; omega
end Go.Proofs.YtckcnenhnniogaaDoor.TagW
