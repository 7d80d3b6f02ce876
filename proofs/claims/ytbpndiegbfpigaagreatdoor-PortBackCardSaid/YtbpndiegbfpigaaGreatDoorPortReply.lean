/- The walks of port.Reply and of the document's. -/
import Derived.Test.YtbpndiegbfpigaaGreatDoorPortEvMath
import Derived.Test.YtbpndiegbfpigaaGreatDoorPortEvWalks
import Derived.Test.YtbpndiegbfpigaaGreatDoorDecRParse
namespace Go.Proofs.YtbpndiegbfpigaaGreatDoor.PortW
open Go.RowKit Go.Proofs.YtbpndiegbfpigaaGreatDoor.Bas Go.Proofs.YtbpndiegbfpigaaGreatDoor.DecM Go.Proofs.YtbpndiegbfpigaaGreatDoor.FixpM Go.Proofs.YtbpndiegbfpigaaGreatDoor.FixpW Go.Proofs.YtbpndiegbfpigaaGreatDoor.DecW Go.Proofs.YtbpndiegbfpigaaGreatDoor.FldW Go.Proofs.YtbpndiegbfpigaaGreatDoor.PortM

theorem replyR_bad {f g h : Fld} (hb : ¬ (f = (35, [114]) ∧ g.1 = 39 ∧ h.1 = 37)) : replyR [f, g, h] = ((0, 0), 11) := by
  simp only [replyR]
  rw [if_neg hb]
theorem replyR_e1 {g2 h2 : List UInt8} {x e : Int} (h1 : parseF g2 0 = (x, e)) (he : e ≠ 0) : replyR [(35, [114]), (39, g2), (37, h2)] = ((0, 0), e) := by
  simp [replyR, h1, he]
theorem replyR_e2 {g2 h2 : List UInt8} {x y e : Int} (h1 : parseF g2 0 = (x, 0)) (h3 : parseF h2 0 = (y, e)) (he : e ≠ 0) : replyR [(35, [114]), (39, g2), (37, h2)] = ((0, 0), e) := by
  simp [replyR, h1, h3, he]
theorem replyR_ok {g2 h2 : List UInt8} {x y : Int} (h1 : parseF g2 0 = (x, 0)) (h3 : parseF h2 0 = (y, 0)) : replyR [(35, [114]), (39, g2), (37, h2)] = ((x, y), 0) := by
  simp [replyR, h1, h3]
theorem size2 (x y : Int) : (Tryz.prog.info? 37).map (·.size) = some (#[.int .i64 x, .int .i64 y] : Array Value).size := by
  rw [show (#[.int .i64 x, .int .i64 y] : Array Value).size = 2 from rfl]; kernel_rfl
theorem one2 (x y : Int) : (#[.int .i64 x, .int .i64 y] : Array Value).all (·.oneCell') = true := by simp [Value.oneCell']
theorem ret_rp {c : (Int × Int) × Int} {x y e : Int} {a b : Value} (h : c = ((x, y), e)) (ha : a = .agg #[.int .i64 x, .int .i64 y]) (hb : b = .int .i64 e) : Ending.returned (.tuple #[a, b]) = .returned (.tuple #[.agg #[.int .i64 c.1.1, .int .i64 c.1.2], .int .i64 c.2]) := by rw [h, ha, hb]
set_option maxHeartbeats 2000000 in
set_option maxRecDepth 20000 in
theorem reply_calls (fs : List Fld) (a : Option Addr) (cap : Nat) (w : World) (hok : ∀ f ∈ fs, f.2.length ≤ 140737488351232) (hl : fs.length ≤ 140737488351232) (hat : At w a (fcells fs)) :
    Calls Tryz.prog 13 #[.slice a fs.length cap] w fun e w' => e = .returned (.tuple #[.agg #[.int .i64 (replyR fs).1.1, .int .i64 (replyR fs).1.2], .int .i64 (replyR fs).2]) ∧ Below w.heap.size w w' := by
  have X0 : Box (w.alloc (.cells #[.int .i64 0, .int .i64 0] 37)) w.heap.size 37 #[.int .i64 0, .int .i64 0] := Box.new w _ _
  have B0 := (Below.refl w.heap.size w).alloc (Nat.le_refl _) (.cells #[.int .i64 0, .int .i64 0] 37)
  have HA := Lib.hid (hat.keep ((Below.refl _ w).alloc (Nat.le_refl _) (.cells #[.int .i64 0, .int .i64 0] 37)))
  clear hat
  by_cases h3 : fs.length = 3
  · obtain ⟨f, g, h, rfl⟩ : ∃ f g h, fs = [f, g, h] := by match fs, h3 with | [f, g, h], _ => exact ⟨f, g, h, rfl⟩
    clear h3 hl
    obtain ⟨f1, f2⟩ := f
    obtain ⟨g1, g2⟩ := g
    obtain ⟨h1, h2⟩ := h
    have hg2 : g2.length ≤ 140737488351232 := hok (g1, g2) (by simp)
    have hh2 : h2.length ≤ 140737488351232 := hok (h1, h2) (by simp)
    clear hok
    rw [show [(f1, f2), (g1, g2), (h1, h2)].length = 3 from rfl]
    obtain ⟨b, off, rfl, c0, c1⟩ := fld_at HA.out 0 (by simp)
    obtain ⟨_, _, e, d0, d1⟩ := fld_at HA.out 1 (by simp)
    cases e
    obtain ⟨_, _, e, k0, k1⟩ := fld_at HA.out 2 (by simp)
    cases e
    simp only [List.getElem_cons_zero, List.getElem_cons_succ, Nat.zero_mul, Nat.one_mul, Nat.add_zero] at c0 c1 d0 d1 k0 k1
    go_enter Tryz.func13, Tryz.ntmps13
    go_upto_region 1 with fail
    generalize w.alloc (.cells #[.int .i64 0, .int .i64 0] 37) = w0 at *
    by_cases hf1 : f1 = 35
    · by_cases hf2 : f2 = [114]
      · by_cases hg1 : g1 = 39
        · by_cases hh1 : h1 = 37
          · subst hf1 hf2 hg1 hh1
            have P1 := fun W => parse_calls g2 0 W (Nat.le_trans hg2 (by decide)) (by unfold I64; omega)
            have P2 := fun W => parse_calls h2 0 W (Nat.le_trans hh2 (by decide)) (by unfold I64; omega)
            rw [ParV_zero] at P1 P2
            have hq : ∀ W, (binOp .neq 43 (.agg #[.int .i64 35, .string ⟨#[114]⟩]) (.agg #[.int .i64 35, .string ⟨#[114]⟩])).run Tryz.prog W = .ok (.bool false) W := fun W => neq_fld W 35 35 [114] [114]
            generalize hp1 : parseF g2 0 = p1 at *
            obtain ⟨x, e1⟩ := p1
            generalize hp2 : parseF h2 0 = p2 at *
            obtain ⟨y, e2⟩ := p2
            simp only at P1 P2
            have P1 := Lib.hid P1
            have P2 := Lib.hid P2
            by_cases he1 : e1 = 0
            · subst he1
              by_cases he2 : e2 = 0
              · subst he2
                have HR := Lib.hid (replyR_ok hp1 hp2)
                clear hp1 hp2
                go_wp2_with (first | (go_at_call 21; refine (P1.out _).mono ?_; rintro e w5 ⟨rfl, b5⟩; clear P1; have X5 := X0.keep b5; have B5 := B0.trans (b5.mono B0.size); have k5 := (b5.cell (World.block_lt_of_cell? w0 _ k1)).trans k1) | (go_at_call 21; refine (P2.out _).mono ?_; rintro e w6 ⟨rfl, b6⟩; have X6 := X5.keep b6; have B6 := B5.trans (b6.mono B5.size)) | ((with_reducible refine wpList_store_box rfl 37 (.tmp 2) (.tmp 58) rfl (#[.int .i64 x, .int .i64 y]) X6 ?_ ?_ ?_ ?_ ?_ ?_); (· exact size2 _ _); (· rfl); (· exact one2 _ _); (· rfl); (· rfl)))
                exact bodyPost_ret (results_cell_slot (by rfl) _ _ (Box.row X6 (#[.int .i64 x, .int .i64 y])) Tryz.underlying37 rfl (size2 _ _) rfl) rfl ⟨ret_rp HR.out rfl rfl, below_setRow B6 (Nat.le_refl _) _⟩
              · have HR := Lib.hid (replyR_e2 hp1 hp2 he2)
                have he : (e2 != 0) = true := by simpa using he2
                clear hp1 hp2
                go_wp2_with (first | (go_at_call 21; refine (P1.out _).mono ?_; rintro e w5 ⟨rfl, b5⟩; clear P1; have X5 := X0.keep b5; have B5 := B0.trans (b5.mono B0.size); have k5 := (b5.cell (World.block_lt_of_cell? w0 _ k1)).trans k1) | (go_at_call 21; refine (P2.out _).mono ?_; rintro e w6 ⟨rfl, b6⟩; have X6 := X5.keep b6; have B6 := B5.trans (b6.mono B5.size)) | ((with_reducible refine wpList_store_box rfl 37 (.tmp 2) (.tmp 54) rfl (#[.int .i64 0, .int .i64 0]) X6 ?_ ?_ ?_ ?_ ?_ ?_); (· exact size2 _ _); (· rfl); (· exact one2 _ _); (· rfl); (· rfl)))
                exact bodyPost_ret (results_cell_slot (by rfl) _ _ (Box.row X6 (#[.int .i64 0, .int .i64 0])) Tryz.underlying37 rfl (size2 _ _) rfl) rfl ⟨ret_rp HR.out rfl rfl, below_setRow B6 (Nat.le_refl _) _⟩
            · have HR := Lib.hid (replyR_e1 (h2 := h2) hp1 he1)
              have he : (e1 != 0) = true := by simpa using he1
              clear hp1 hp2 P2
              go_wp2_with (first | (go_at_call 21; refine (P1.out _).mono ?_; rintro e w5 ⟨rfl, b5⟩; clear P1; have X5 := X0.keep b5; have B5 := B0.trans (b5.mono B0.size); have k5 := (b5.cell (World.block_lt_of_cell? w0 _ k1)).trans k1) | ((with_reducible refine wpList_store_box rfl 37 (.tmp 2) (.tmp 42) rfl (#[.int .i64 0, .int .i64 0]) X5 ?_ ?_ ?_ ?_ ?_ ?_); (· exact size2 _ _); (· rfl); (· exact one2 _ _); (· rfl); (· rfl)))
              exact bodyPost_ret (results_cell_slot (by rfl) _ _ (Box.row X5 (#[.int .i64 0, .int .i64 0])) Tryz.underlying37 rfl (size2 _ _) rfl) rfl ⟨ret_rp HR.out rfl rfl, below_setRow B5 (Nat.le_refl _) _⟩
          · subst hf1 hf2 hg1
            have HR := Lib.hid (replyR_bad (f := (35, [114])) (g := (39, g2)) (h := (h1, h2)) (by simp [hh1]))
            have hh : (h1 != 37) = true := by simpa using hh1
            have hq : ∀ W, (binOp .neq 43 (.agg #[.int .i64 35, .string ⟨#[114]⟩]) (.agg #[.int .i64 35, .string ⟨#[114]⟩])).run Tryz.prog W = .ok (.bool false) W := fun W => by have := neq_fld W 35 35 [114] [114]; exact this
            go_wp2_with (first | ((with_reducible refine wpList_store_box rfl 37 (.tmp 2) (.tmp 31) rfl (#[.int .i64 0, .int .i64 0]) X0 ?_ ?_ ?_ ?_ ?_ ?_); (· exact size2 _ _); (· rfl); (· exact one2 _ _); (· rfl); (· rfl)))
            exact bodyPost_ret (results_cell_slot (by rfl) _ _ (Box.row X0 (#[.int .i64 0, .int .i64 0])) Tryz.underlying37 rfl (size2 _ _) rfl) rfl ⟨ret_rp HR.out rfl rfl, below_setRow B0 (Nat.le_refl _) _⟩
        · subst hf1 hf2
          have HR := Lib.hid (replyR_bad (f := (35, [114])) (g := (g1, g2)) (h := (h1, h2)) (by simp [hg1]))
          have hh : (g1 != 39) = true := by simpa using hg1
          have hq : ∀ W, (binOp .neq 43 (.agg #[.int .i64 35, .string ⟨#[114]⟩]) (.agg #[.int .i64 35, .string ⟨#[114]⟩])).run Tryz.prog W = .ok (.bool false) W := fun W => by have := neq_fld W 35 35 [114] [114]; exact this
          go_wp2_with (first | ((with_reducible refine wpList_store_box rfl 37 (.tmp 2) (.tmp 31) rfl (#[.int .i64 0, .int .i64 0]) X0 ?_ ?_ ?_ ?_ ?_ ?_); (· exact size2 _ _); (· rfl); (· exact one2 _ _); (· rfl); (· rfl)))
          exact bodyPost_ret (results_cell_slot (by rfl) _ _ (Box.row X0 (#[.int .i64 0, .int .i64 0])) Tryz.underlying37 rfl (size2 _ _) rfl) rfl ⟨ret_rp HR.out rfl rfl, below_setRow B0 (Nat.le_refl _) _⟩
      · subst hf1
        have HR := Lib.hid (replyR_bad (f := (35, f2)) (g := (g1, g2)) (h := (h1, h2)) (by simp [hf2]))
        have hh : (f2 == [114]) = false := by simpa using hf2
        have hq : ∀ W, (binOp .neq 43 (.agg #[.int .i64 35, .string ⟨f2.toArray⟩]) (.agg #[.int .i64 35, .string ⟨#[114]⟩])).run Tryz.prog W = .ok (.bool true) W := fun W => by have := neq_fld W 35 35 f2 [114]; simpa [hh] using this
        go_wp2_with (first | ((with_reducible refine wpList_store_box rfl 37 (.tmp 2) (.tmp 31) rfl (#[.int .i64 0, .int .i64 0]) X0 ?_ ?_ ?_ ?_ ?_ ?_); (· exact size2 _ _); (· rfl); (· exact one2 _ _); (· rfl); (· rfl)))
        exact bodyPost_ret (results_cell_slot (by rfl) _ _ (Box.row X0 (#[.int .i64 0, .int .i64 0])) Tryz.underlying37 rfl (size2 _ _) rfl) rfl ⟨ret_rp HR.out rfl rfl, below_setRow B0 (Nat.le_refl _) _⟩
    · have HR := Lib.hid (replyR_bad (f := (f1, f2)) (g := (g1, g2)) (h := (h1, h2)) (by simp [hf1]))
      have hh : (f1 != 35) = true := by simpa using hf1
      have hq : ∀ W, (binOp .neq 43 (.agg #[.int .i64 f1, .string ⟨f2.toArray⟩]) (.agg #[.int .i64 35, .string ⟨#[114]⟩])).run Tryz.prog W = .ok (.bool true) W := fun W => by have := neq_fld W f1 35 f2 [114]; have hh0 : (f1 == 35) = false := (by simpa using hf1); simpa [hh0] using this
      go_wp2_with (first | ((with_reducible refine wpList_store_box rfl 37 (.tmp 2) (.tmp 31) rfl (#[.int .i64 0, .int .i64 0]) X0 ?_ ?_ ?_ ?_ ?_ ?_); (· exact size2 _ _); (· rfl); (· exact one2 _ _); (· rfl); (· rfl)))
      exact bodyPost_ret (results_cell_slot (by rfl) _ _ (Box.row X0 (#[.int .i64 0, .int .i64 0])) Tryz.underlying37 rfl (size2 _ _) rfl) rfl ⟨ret_rp HR.out rfl rfl, below_setRow B0 (Nat.le_refl _) _⟩
  · have HR := Lib.hid (replyR_not h3)
    have hne : ((fs.length : Int) != 3) = true := by simp; omega
    clear h3 hok HA
    go_enter Tryz.func13, Tryz.ntmps13
    go_upto_region 1 with fail
    generalize w.alloc (.cells #[.int .i64 0, .int .i64 0] 37) = w0 at *
    go_wp2_with (first | ((with_reducible refine wpList_store_box rfl 37 (.tmp 2) (.tmp 31) rfl (#[.int .i64 0, .int .i64 0]) X0 ?_ ?_ ?_ ?_ ?_ ?_); (· exact size2 _ _); (· rfl); (· exact one2 _ _); (· rfl); (· rfl)))
    exact bodyPost_ret (results_cell_slot (by rfl) _ _ (Box.row X0 (#[.int .i64 0, .int .i64 0])) Tryz.underlying37 rfl (size2 _ _) rfl) rfl ⟨ret_rp HR.out rfl rfl, below_setRow B0 (Nat.le_refl _) _⟩
end Go.Proofs.YtbpndiegbfpigaaGreatDoor.PortW
