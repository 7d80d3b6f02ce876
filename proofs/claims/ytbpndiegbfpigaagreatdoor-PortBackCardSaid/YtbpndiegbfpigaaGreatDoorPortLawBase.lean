/- Layer 22's laws: the wakes, and the table of powers from what is laid. -/
import Derived.Test.YtbpndiegbfpigaaGreatDoorPortAnswer
import Derived.Test.YtbpndiegbfpigaaGreatDoorBaseLaid
namespace Go.Proofs.YtbpndiegbfpigaaGreatDoor.PortW
open Go.RowKit Go.Proofs.YtbpndiegbfpigaaGreatDoor.Bas Go.Proofs.YtbpndiegbfpigaaGreatDoor.DecM Go.Proofs.YtbpndiegbfpigaaGreatDoor.FixpM Go.Proofs.YtbpndiegbfpigaaGreatDoor.FixpW Go.Proofs.YtbpndiegbfpigaaGreatDoor.DecW Go.Proofs.YtbpndiegbfpigaaGreatDoor.FldW Go.Proofs.YtbpndiegbfpigaaGreatDoor.PortM

def evW : Ev := ⟨2, 2, 7, 0, 0, 0, 0, 0, 0, 0, false, []⟩
theorem evW_fine : Ev.Fine evW where
  num := fun t => by unfold num evW I64; (repeat' split) <;> simp
  kind := by unfold evW I64; simp
  name := by unfold evW; simp
theorem fmt1 (n : Nat) (h : n < 10) (c : UInt8) (hc : (48 + n).toUInt8 = c) : fmtF (n : Int) 0 = [c] := by
  have hl : len n 0 = 1 := by unfold len; rw [Lib.nDigits_small h]; rfl
  subst hc
  unfold fmtF fmtL
  rw [Int.natAbs_natCast, hl, if_neg (by omega), if_pos rfl]
  rcases (by omega : n = 0 ∨ n = 1 ∨ n = 2 ∨ n = 3 ∨ n = 4 ∨ n = 5 ∨ n = 6 ∨ n = 7 ∨ n = 8 ∨ n = 9) with rfl | rfl | rfl | rfl | rfl | rfl | rfl | rfl | rfl | rfl <;> decide
theorem wakesR : fieldsR evW = ([(35, [70]), (1, [50]), (11, [55])], 0) := by
  have h1 : one evW 1 = (0, [50]) := by
    rw [one_num (by decide) (by decide), show num evW 1 = ((2 : Nat) : Int) from rfl, if_pos (by decide), fmt1 2 (by omega) 50 rfl]
  have h2 : one evW 11 = (0, [55]) := by
    rw [one_num (by decide) (by decide), show num evW 11 = ((7 : Nat) : Int) from rfl, if_pos (by decide), fmt1 7 (by omega) 55 rfl]
  rw [fieldsR_ok (by decide) (fun t ht => by
    rw [show tagsF evW.kind = [1, 11] from rfl] at ht
    simp at ht
    rcases ht with rfl | rfl
    · rw [h1]
    · rw [h2])]
  rw [show tagsF evW.kind = [1, 11] from rfl]
  unfold outF
  simp only [List.map_cons, List.map_nil, h1, h2]
  rfl
set_option maxHeartbeats 1000000 in
set_option maxRecDepth 20000 in
theorem wakes_calls (w : World) (ht : Pow w) : Calls Tryz.prog 5 #[] w fun e w' => e = .returned (.bool true) ∧ Below w.heap.size w w' := by
  have C1 := fields_calls evW w evW_fine ht
  rw [wakesR] at C1
  simp only [Ev.cells, evW] at C1
  have C1 := Lib.hid C1
  have C2 := Lib.hid (fun a b ca cb W => same_calls a b ca cb [(35, [70]), (1, [50]), (11, [55])] [(35, [70]), (1, [50]), (11, [55])] W (by decide) (by decide))
  have C3 := Lib.hid (fun W => of_calls 16 W)
  clear ht
  go_enter Tryz.func5, Tryz.ntmps5
  go_wp2_with (first
    | (go_at_call 7; refine C1.out.mono ?_; rintro e w1 ⟨a1, c1, rfl, own1, b1⟩; obtain ⟨a, c, hac, _, _, at1, _⟩ := at_of_owns own1; cases hac; have B1 := b1)
    | (go_at_call 11; refine (C2.out _ _ _ _ _ (at1.keep ((Below.refl _ _).alloc (Nat.le_refl _) _)) (at_alloc w1 (fcells [(35, [70]), (1, [50]), (11, [55])]).toArray _ _)).mono ?_; rintro e w2 ⟨rfl, n, rfl⟩)
    | (go_at_call 14; refine (C3.out _).mono ?_; rintro e w3 ⟨rfl, rfl⟩))
  go_ret
  exact ⟨ret_bool (by first | rfl | simp [ofF] | decide), below_drewN (B1.alloc B1.size _) n⟩
end Go.Proofs.YtbpndiegbfpigaaGreatDoor.PortW
