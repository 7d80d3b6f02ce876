/- The walks of Answer, and of the document's. -/
import Derived.Test.YtbpndiegbfpigaaGreatDoorPortRFields
namespace Go.Proofs.YtbpndiegbfpigaaGreatDoor.PortW
open Go.RowKit Go.Proofs.YtbpndiegbfpigaaGreatDoor.Bas Go.Proofs.YtbpndiegbfpigaaGreatDoor.DecM Go.Proofs.YtbpndiegbfpigaaGreatDoor.FixpM Go.Proofs.YtbpndiegbfpigaaGreatDoor.FixpW Go.Proofs.YtbpndiegbfpigaaGreatDoor.DecW Go.Proofs.YtbpndiegbfpigaaGreatDoor.FldW Go.Proofs.YtbpndiegbfpigaaGreatDoor.PortM

theorem answerR_ok {c n : Int} (hc : fits c = true) (hn : fits n = true) : answerR c n = ([(35, [114]), (39, fmtF c 0), (37, fmtF n 0)], 0) := by unfold answerR; rw [if_pos ⟨hc, hn⟩]
theorem answerR_bad {c n : Int} (h : fits c = false ∨ fits n = false) : answerR c n = ([], 4) := by unfold answerR; rw [if_neg (by rcases h with h | h <;> simp [h])]
set_option maxHeartbeats 4000000 in
set_option maxRecDepth 20000 in
theorem answer_calls (c n : Int) (w : World) (hc : I64 c) (hn : I64 n) (ht : Pow w) :
    Calls Tryz.prog 12 #[.agg #[.int .i64 c, .int .i64 n]] w fun e w' => ∃ a cap, e = .returned (.tuple #[.slice a (answerR c n).1.length cap, .int .i64 (answerR c n).2]) ∧ At w' a (fcells (answerR c n).1) ∧ Below w.heap.size w w' := by
  have X0 := Box.new w 37 #[.int .i64 c, .int .i64 n]
  have B0 := (Below.refl w.heap.size w).alloc (Nat.le_refl _) (.cells #[.int .i64 c, .int .i64 n] 37)
  have FC := fun W h => format_calls c 0 W hc (by unfold I64; omega) h
  have FN := fun W h => format_calls n 0 W hn (by unfold I64; omega) h
  have HT := Lib.hid ht
  clear ht hc hn
  have z0 := X0.lt
  go_enter Tryz.func12, Tryz.ntmps12
  go_upto_region 1 with fail
  generalize w.alloc (.cells #[.int .i64 c, .int .i64 n] 37) = w1 at *
  have c0 := X0.cell 0
  by_cases h1 : fits c = true
  · rw [FmtV_ok (x := c) (p := 0) (by omega) h1] at FC
    have FC := Lib.hid FC
    by_cases h2 : fits n = true
    · rw [FmtV_ok (x := n) (p := 0) (by omega) h2] at FN
      have FN := Lib.hid FN
      have HA := Lib.hid (answerR_ok h1 h2)
      clear h1 h2
      go_wp2_with (first
        | (go_at_call 18; refine (FC.out _ (HT.out.keep B0)).mono ?_; rintro e w2 ⟨rfl, b2⟩; have X2 := X0.keep b2; have c1 := X2.cell 1; have B2 := B0.trans (b2.mono B0.size); clear FC)
        | (go_at_call 18; refine (FN.out _ (HT.out.keep B2)).mono ?_; rintro e w3 ⟨rfl, b3⟩; have B3 := B2.trans (b3.mono B2.size)))
      go_ret2
      refine ⟨_, _, by rw [HA.out]; rfl, ?_, B3.alloc B3.size _⟩
      rw [HA.out]
      exact at_alloc w3 _ _ _
    · have h2 : fits n = false := by simpa using h2
      rw [FmtV_over (x := n) (p := 0) (by omega) h2] at FN
      have FN := Lib.hid FN
      have HA := Lib.hid (answerR_bad (c := c) (n := n) (.inr h2))
      clear h1 h2
      go_wp2_with (first
        | (go_at_call 18; refine (FC.out _ (HT.out.keep B0)).mono ?_; rintro e w2 ⟨rfl, b2⟩; have X2 := X0.keep b2; have c1 := X2.cell 1; have B2 := B0.trans (b2.mono B0.size); clear FC)
        | (go_at_call 18; refine (FN.out _ (HT.out.keep B2)).mono ?_; rintro e w3 ⟨rfl, b3⟩; have B3 := B2.trans (b3.mono B2.size)))
      go_ret2
      exact ⟨none, 0, by rw [HA.out]; rfl, by rw [HA.out]; exact At.nil _ _, B3⟩
  · have h1 : fits c = false := by simpa using h1
    rw [FmtV_over (x := c) (p := 0) (by omega) h1] at FC
    have FC := Lib.hid FC
    have HA := Lib.hid (answerR_bad (c := c) (n := n) (.inl h1))
    clear h1
    go_wp2_with (go_at_call 18; refine (FC.out _ (HT.out.keep B0)).mono ?_; rintro e w2 ⟨rfl, b2⟩; have B2 := B0.trans (b2.mono B0.size); clear FC)
    go_ret2
    exact ⟨none, 0, by rw [HA.out]; rfl, by rw [HA.out]; exact At.nil _ _, B2⟩
end Go.Proofs.YtbpndiegbfpigaaGreatDoor.PortW
