/- RefRises: the walk, and the step from the law's arguments to it. -/
import Derived.Test.YtghcbkkabhlchaaDoorRefLawBase
namespace Go.Proofs.YtghcbkkabhlchaaDoor.refRises
open Go.ChangeShapes Go.WideShapes Go.ChangeAt Go.RowKit Go.Proofs.YtghcbkkabhlchaaDoor.Bas Go.Proofs.YtghcbkkabhlchaaDoor.FixpM Go.Proofs.YtghcbkkabhlchaaDoor.FixpW Go.Proofs.YtghcbkkabhlchaaDoor.RefW

set_option maxHeartbeats 2000000 in
theorem walk (r h a b : Int) (w : World) (hr : I64 r) (ha : I64 a) (hb : I64 b) :
    Calls Tryd.prog 4 #[curV r h, .int .i64 a, .int .i64 b] w fun e w' => e = .returned (.bool true) ∧ Below w.heap.size w w' := by
  have C1 := fun W => worth_calls r h a W ha hr
  have C2 := fun W => worth_calls r h b W hb hr
  have C3 := fun W => base_calls r h a 0 W ha hr
  have C4 := fun (hs : I64 (a + b)) W => worth_calls r h (a + b) W hs hr
  have L1 := fun (x y : Int) (e : worthF r h a = (x, 0)) (f : worthF r h b = (y, 0)) => And.intro (fun h => worth_le e f h) (fun h => worth_le f e h)
  have L2 := fun (x : Int) (e : worthF r h a = (x, 0)) => base_ok_of_worth e
  have L3 := fun (x y z : Int) (e : worthF r h a = (x, 0)) (f : worthF r h b = (y, 0)) (g : worthF r h (a + b) = (z, 0)) => And.intro (worth_add e f g) (worth_small g)
  have L4 := fun (x : Int) (e : worthF r h a = (x, 0)) => worth_small e
  have L5 := fun (y : Int) (e : worthF r h b = (y, 0)) => worth_small e
  generalize worthF r h a = p at C1 L1 L2 L3 L4
  generalize worthF r h b = q at C2 L1 L3 L5
  generalize worthF r h (a + b) = s at C4 L3
  generalize baseF r h a 0 = t at C3 L2
  obtain ⟨p1, p2⟩ := p
  obtain ⟨q1, q2⟩ := q
  obtain ⟨s1, s2⟩ := s
  obtain ⟨t1, t2⟩ := t
  unfold curV at *
  have D0 := Lib.hid (fun W => wakes_calls W)
  have D1 := Lib.hid C1
  have D2 := Lib.hid C2
  have D3 := Lib.hid C3
  have D4 := Lib.hid C4
  clear C1 C2 C3 C4
  have hB : Below w.heap.size w (w.alloc (.cells #[.int .i64 r, .int .i64 h] 23)) := (Below.refl _ _).alloc (Nat.le_refl _) _
  have x0 := Box.new w 23 #[.int .i64 r, .int .i64 h]
  go_enter Tryd.func4, Tryd.ntmps4
  go_upto_region 1 with fail
  generalize w.alloc (.cells #[.int .i64 r, .int .i64 h] 23) = w0 at hB x0 ⊢
  by_cases hp : p2 = 0
  · subst hp
    by_cases hq : q2 = 0
    · subst hq
      obtain ⟨l1, l2⟩ := L1 p1 q1 rfl rfl
      obtain ⟨tt, ht, l3⟩ := L2 p1 rfl
      simp only [Prod.mk.injEq] at ht
      obtain ⟨rfl, rfl⟩ := ht
      have l4 := L4 p1 rfl
      have l5 := L5 q1 rfl
      have l6 := fun (g : (s1, s2) = (s1, 0)) (x : 0 ≤ a) (y : 0 ≤ b) => And.intro ((L3 p1 q1 s1 rfl rfl g).1 x y) (L3 p1 q1 s1 rfl rfl g).2
      have L6 := Lib.hid l6
      have A1 := Lib.hid l1
      have A2 := Lib.hid l2
      clear L1 L2 L3 L4 L5 l6 l1 l2
      unfold I64 at ha hb
      have z1 : a ≤ b → decide (q1 < p1) = false := fun h => by have := A1.out h; simp; omega
      have z2 : b ≤ a → decide (p1 < q1) = false := fun h => by have := A2.out h; simp; omega
      clear z1 z2
      by_cases c1 : a < b
      · have c2 := A1.out (by omega)
        by_cases a0 : a < 0
        · skip
          go_wp2_with (first | (go_at_call 7; refine (D0.out _).mono ?_; rintro e w1 ⟨rfl, b1⟩; have x1 := x0.keep b1; have hB1 := hB.trans (b1.mono hB.size); clear x0 hB b1; have e0 := x1.cell 0; have e1 := x1.cell 1) | (go_at_call 10; refine (D1.out _).mono ?_; rintro e w2 ⟨rfl, b2⟩; have x2 := x1.keep b2; have hB2 := hB1.trans (b2.mono hB1.size); clear x1 hB1 b2 e0 e1 D1; have e0 := x2.cell 0; have e1 := x2.cell 1) | (go_at_call 10; refine (D2.out _).mono ?_; rintro e w3 ⟨rfl, b3⟩; have x3 := x2.keep b3; have hB3 := hB2.trans (b3.mono hB2.size); clear x2 hB2 b3 e0 e1 D2; have e0 := x3.cell 0; have e1 := x3.cell 1) | (go_at_call 8; refine (D3.out _).mono ?_; rintro e w4 ⟨rfl, b4⟩; have x4 := x3.keep b4; have hB4 := hB3.trans (b4.mono hB3.size); clear x3 hB3 b4 e0 e1 D3; have e0 := x4.cell 0; have e1 := x4.cell 1))
          all_goals (go_ret; exact ⟨rfl, hB4⟩)
        · by_cases b0 : b < 0
          · skip
            go_wp2_with (first | (go_at_call 7; refine (D0.out _).mono ?_; rintro e w1 ⟨rfl, b1⟩; have x1 := x0.keep b1; have hB1 := hB.trans (b1.mono hB.size); clear x0 hB b1; have e0 := x1.cell 0; have e1 := x1.cell 1) | (go_at_call 10; refine (D1.out _).mono ?_; rintro e w2 ⟨rfl, b2⟩; have x2 := x1.keep b2; have hB2 := hB1.trans (b2.mono hB1.size); clear x1 hB1 b2 e0 e1 D1; have e0 := x2.cell 0; have e1 := x2.cell 1) | (go_at_call 10; refine (D2.out _).mono ?_; rintro e w3 ⟨rfl, b3⟩; have x3 := x2.keep b3; have hB3 := hB2.trans (b3.mono hB2.size); clear x2 hB2 b3 e0 e1 D2; have e0 := x3.cell 0; have e1 := x3.cell 1) | (go_at_call 8; refine (D3.out _).mono ?_; rintro e w4 ⟨rfl, b4⟩; have x4 := x3.keep b4; have hB4 := hB3.trans (b4.mono hB3.size); clear x3 hB3 b4 e0 e1 D3; have e0 := x4.cell 0; have e1 := x4.cell 1))
            all_goals (go_ret; exact ⟨rfl, hB4⟩)
          · by_cases m0 : 4611686018427387904 - b < a
            · skip
              go_wp2_with (first | (go_at_call 7; refine (D0.out _).mono ?_; rintro e w1 ⟨rfl, b1⟩; have x1 := x0.keep b1; have hB1 := hB.trans (b1.mono hB.size); clear x0 hB b1; have e0 := x1.cell 0; have e1 := x1.cell 1) | (go_at_call 10; refine (D1.out _).mono ?_; rintro e w2 ⟨rfl, b2⟩; have x2 := x1.keep b2; have hB2 := hB1.trans (b2.mono hB1.size); clear x1 hB1 b2 e0 e1 D1; have e0 := x2.cell 0; have e1 := x2.cell 1) | (go_at_call 10; refine (D2.out _).mono ?_; rintro e w3 ⟨rfl, b3⟩; have x3 := x2.keep b3; have hB3 := hB2.trans (b3.mono hB2.size); clear x2 hB2 b3 e0 e1 D2; have e0 := x3.cell 0; have e1 := x3.cell 1) | (go_at_call 8; refine (D3.out _).mono ?_; rintro e w4 ⟨rfl, b4⟩; have x4 := x3.keep b4; have hB4 := hB3.trans (b4.mono hB3.size); clear x3 hB3 b4 e0 e1 D3; have e0 := x4.cell 0; have e1 := x4.cell 1))
              all_goals (go_ret; exact ⟨rfl, hB4⟩)
            · have D5 := Lib.hid (fun W => D4.out (by unfold I64; omega) W)
              clear D4
              by_cases hs : s2 = 0
              · have l7 := L6.out (by rw [hs]) (by omega) (by omega)
                subst hs
                go_wp2_with (first | (go_at_call 7; refine (D0.out _).mono ?_; rintro e w1 ⟨rfl, b1⟩; have x1 := x0.keep b1; have hB1 := hB.trans (b1.mono hB.size); clear x0 hB b1; have e0 := x1.cell 0; have e1 := x1.cell 1) | (go_at_call 10; refine (D1.out _).mono ?_; rintro e w2 ⟨rfl, b2⟩; have x2 := x1.keep b2; have hB2 := hB1.trans (b2.mono hB1.size); clear x1 hB1 b2 e0 e1 D1; have e0 := x2.cell 0; have e1 := x2.cell 1) | (go_at_call 10; refine (D2.out _).mono ?_; rintro e w3 ⟨rfl, b3⟩; have x3 := x2.keep b3; have hB3 := hB2.trans (b3.mono hB2.size); clear x2 hB2 b3 e0 e1 D2; have e0 := x3.cell 0; have e1 := x3.cell 1) | (go_at_call 8; refine (D3.out _).mono ?_; rintro e w4 ⟨rfl, b4⟩; have x4 := x3.keep b4; have hB4 := hB3.trans (b4.mono hB3.size); clear x3 hB3 b4 e0 e1 D3; have e0 := x4.cell 0; have e1 := x4.cell 1) | (go_at_call 10; refine (D5.out _).mono ?_; rintro e w5 ⟨rfl, b5⟩; have hB5 := hB4.trans (b5.mono hB4.size); clear x4 hB4 b5 e0 e1))
                all_goals (go_ret; exact ⟨rfl, hB5⟩)
              · have hsb : (s2 != 0) = true := by simpa using hs
                go_wp2_with (first | (go_at_call 7; refine (D0.out _).mono ?_; rintro e w1 ⟨rfl, b1⟩; have x1 := x0.keep b1; have hB1 := hB.trans (b1.mono hB.size); clear x0 hB b1; have e0 := x1.cell 0; have e1 := x1.cell 1) | (go_at_call 10; refine (D1.out _).mono ?_; rintro e w2 ⟨rfl, b2⟩; have x2 := x1.keep b2; have hB2 := hB1.trans (b2.mono hB1.size); clear x1 hB1 b2 e0 e1 D1; have e0 := x2.cell 0; have e1 := x2.cell 1) | (go_at_call 10; refine (D2.out _).mono ?_; rintro e w3 ⟨rfl, b3⟩; have x3 := x2.keep b3; have hB3 := hB2.trans (b3.mono hB2.size); clear x2 hB2 b3 e0 e1 D2; have e0 := x3.cell 0; have e1 := x3.cell 1) | (go_at_call 8; refine (D3.out _).mono ?_; rintro e w4 ⟨rfl, b4⟩; have x4 := x3.keep b4; have hB4 := hB3.trans (b4.mono hB3.size); clear x3 hB3 b4 e0 e1 D3; have e0 := x4.cell 0; have e1 := x4.cell 1) | (go_at_call 10; refine (D5.out _).mono ?_; rintro e w5 ⟨rfl, b5⟩; have hB5 := hB4.trans (b5.mono hB4.size); clear x4 hB4 b5 e0 e1))
                all_goals (go_ret; exact ⟨rfl, hB5⟩)
      · by_cases c3 : a = b
        · have c2 := A1.out (by omega)
          have c4 := A2.out (by omega)
          have c5 : a ≤ b := by omega
          have c6 : b ≤ a := by omega
          clear c3
          by_cases a0 : a < 0
          · skip
            go_wp2_with (first | (go_at_call 7; refine (D0.out _).mono ?_; rintro e w1 ⟨rfl, b1⟩; have x1 := x0.keep b1; have hB1 := hB.trans (b1.mono hB.size); clear x0 hB b1; have e0 := x1.cell 0; have e1 := x1.cell 1) | (go_at_call 10; refine (D1.out _).mono ?_; rintro e w2 ⟨rfl, b2⟩; have x2 := x1.keep b2; have hB2 := hB1.trans (b2.mono hB1.size); clear x1 hB1 b2 e0 e1 D1; have e0 := x2.cell 0; have e1 := x2.cell 1) | (go_at_call 10; refine (D2.out _).mono ?_; rintro e w3 ⟨rfl, b3⟩; have x3 := x2.keep b3; have hB3 := hB2.trans (b3.mono hB2.size); clear x2 hB2 b3 e0 e1 D2; have e0 := x3.cell 0; have e1 := x3.cell 1) | (go_at_call 8; refine (D3.out _).mono ?_; rintro e w4 ⟨rfl, b4⟩; have x4 := x3.keep b4; have hB4 := hB3.trans (b4.mono hB3.size); clear x3 hB3 b4 e0 e1 D3; have e0 := x4.cell 0; have e1 := x4.cell 1))
            all_goals (go_ret; exact ⟨rfl, hB4⟩)
          · by_cases b0 : b < 0
            · skip
              go_wp2_with (first | (go_at_call 7; refine (D0.out _).mono ?_; rintro e w1 ⟨rfl, b1⟩; have x1 := x0.keep b1; have hB1 := hB.trans (b1.mono hB.size); clear x0 hB b1; have e0 := x1.cell 0; have e1 := x1.cell 1) | (go_at_call 10; refine (D1.out _).mono ?_; rintro e w2 ⟨rfl, b2⟩; have x2 := x1.keep b2; have hB2 := hB1.trans (b2.mono hB1.size); clear x1 hB1 b2 e0 e1 D1; have e0 := x2.cell 0; have e1 := x2.cell 1) | (go_at_call 10; refine (D2.out _).mono ?_; rintro e w3 ⟨rfl, b3⟩; have x3 := x2.keep b3; have hB3 := hB2.trans (b3.mono hB2.size); clear x2 hB2 b3 e0 e1 D2; have e0 := x3.cell 0; have e1 := x3.cell 1) | (go_at_call 8; refine (D3.out _).mono ?_; rintro e w4 ⟨rfl, b4⟩; have x4 := x3.keep b4; have hB4 := hB3.trans (b4.mono hB3.size); clear x3 hB3 b4 e0 e1 D3; have e0 := x4.cell 0; have e1 := x4.cell 1))
              all_goals (go_ret; exact ⟨rfl, hB4⟩)
            · by_cases m0 : 4611686018427387904 - b < a
              · skip
                go_wp2_with (first | (go_at_call 7; refine (D0.out _).mono ?_; rintro e w1 ⟨rfl, b1⟩; have x1 := x0.keep b1; have hB1 := hB.trans (b1.mono hB.size); clear x0 hB b1; have e0 := x1.cell 0; have e1 := x1.cell 1) | (go_at_call 10; refine (D1.out _).mono ?_; rintro e w2 ⟨rfl, b2⟩; have x2 := x1.keep b2; have hB2 := hB1.trans (b2.mono hB1.size); clear x1 hB1 b2 e0 e1 D1; have e0 := x2.cell 0; have e1 := x2.cell 1) | (go_at_call 10; refine (D2.out _).mono ?_; rintro e w3 ⟨rfl, b3⟩; have x3 := x2.keep b3; have hB3 := hB2.trans (b3.mono hB2.size); clear x2 hB2 b3 e0 e1 D2; have e0 := x3.cell 0; have e1 := x3.cell 1) | (go_at_call 8; refine (D3.out _).mono ?_; rintro e w4 ⟨rfl, b4⟩; have x4 := x3.keep b4; have hB4 := hB3.trans (b4.mono hB3.size); clear x3 hB3 b4 e0 e1 D3; have e0 := x4.cell 0; have e1 := x4.cell 1))
                all_goals (go_ret; exact ⟨rfl, hB4⟩)
              · have D5 := Lib.hid (fun W => D4.out (by unfold I64; omega) W)
                clear D4
                by_cases hs : s2 = 0
                · have l7 := L6.out (by rw [hs]) (by omega) (by omega)
                  subst hs
                  go_wp2_with (first | (go_at_call 7; refine (D0.out _).mono ?_; rintro e w1 ⟨rfl, b1⟩; have x1 := x0.keep b1; have hB1 := hB.trans (b1.mono hB.size); clear x0 hB b1; have e0 := x1.cell 0; have e1 := x1.cell 1) | (go_at_call 10; refine (D1.out _).mono ?_; rintro e w2 ⟨rfl, b2⟩; have x2 := x1.keep b2; have hB2 := hB1.trans (b2.mono hB1.size); clear x1 hB1 b2 e0 e1 D1; have e0 := x2.cell 0; have e1 := x2.cell 1) | (go_at_call 10; refine (D2.out _).mono ?_; rintro e w3 ⟨rfl, b3⟩; have x3 := x2.keep b3; have hB3 := hB2.trans (b3.mono hB2.size); clear x2 hB2 b3 e0 e1 D2; have e0 := x3.cell 0; have e1 := x3.cell 1) | (go_at_call 8; refine (D3.out _).mono ?_; rintro e w4 ⟨rfl, b4⟩; have x4 := x3.keep b4; have hB4 := hB3.trans (b4.mono hB3.size); clear x3 hB3 b4 e0 e1 D3; have e0 := x4.cell 0; have e1 := x4.cell 1) | (go_at_call 10; refine (D5.out _).mono ?_; rintro e w5 ⟨rfl, b5⟩; have hB5 := hB4.trans (b5.mono hB4.size); clear x4 hB4 b5 e0 e1))
                  all_goals (go_ret; exact ⟨rfl, hB5⟩)
                · have hsb : (s2 != 0) = true := by simpa using hs
                  go_wp2_with (first | (go_at_call 7; refine (D0.out _).mono ?_; rintro e w1 ⟨rfl, b1⟩; have x1 := x0.keep b1; have hB1 := hB.trans (b1.mono hB.size); clear x0 hB b1; have e0 := x1.cell 0; have e1 := x1.cell 1) | (go_at_call 10; refine (D1.out _).mono ?_; rintro e w2 ⟨rfl, b2⟩; have x2 := x1.keep b2; have hB2 := hB1.trans (b2.mono hB1.size); clear x1 hB1 b2 e0 e1 D1; have e0 := x2.cell 0; have e1 := x2.cell 1) | (go_at_call 10; refine (D2.out _).mono ?_; rintro e w3 ⟨rfl, b3⟩; have x3 := x2.keep b3; have hB3 := hB2.trans (b3.mono hB2.size); clear x2 hB2 b3 e0 e1 D2; have e0 := x3.cell 0; have e1 := x3.cell 1) | (go_at_call 8; refine (D3.out _).mono ?_; rintro e w4 ⟨rfl, b4⟩; have x4 := x3.keep b4; have hB4 := hB3.trans (b4.mono hB3.size); clear x3 hB3 b4 e0 e1 D3; have e0 := x4.cell 0; have e1 := x4.cell 1) | (go_at_call 10; refine (D5.out _).mono ?_; rintro e w5 ⟨rfl, b5⟩; have hB5 := hB4.trans (b5.mono hB4.size); clear x4 hB4 b5 e0 e1))
                  all_goals (go_ret; exact ⟨rfl, hB5⟩)
        · have c2 := A2.out (by omega)
          by_cases a0 : a < 0
          · skip
            go_wp2_with (first | (go_at_call 7; refine (D0.out _).mono ?_; rintro e w1 ⟨rfl, b1⟩; have x1 := x0.keep b1; have hB1 := hB.trans (b1.mono hB.size); clear x0 hB b1; have e0 := x1.cell 0; have e1 := x1.cell 1) | (go_at_call 10; refine (D1.out _).mono ?_; rintro e w2 ⟨rfl, b2⟩; have x2 := x1.keep b2; have hB2 := hB1.trans (b2.mono hB1.size); clear x1 hB1 b2 e0 e1 D1; have e0 := x2.cell 0; have e1 := x2.cell 1) | (go_at_call 10; refine (D2.out _).mono ?_; rintro e w3 ⟨rfl, b3⟩; have x3 := x2.keep b3; have hB3 := hB2.trans (b3.mono hB2.size); clear x2 hB2 b3 e0 e1 D2; have e0 := x3.cell 0; have e1 := x3.cell 1) | (go_at_call 8; refine (D3.out _).mono ?_; rintro e w4 ⟨rfl, b4⟩; have x4 := x3.keep b4; have hB4 := hB3.trans (b4.mono hB3.size); clear x3 hB3 b4 e0 e1 D3; have e0 := x4.cell 0; have e1 := x4.cell 1))
            all_goals (go_ret; exact ⟨rfl, hB4⟩)
          · by_cases b0 : b < 0
            · skip
              go_wp2_with (first | (go_at_call 7; refine (D0.out _).mono ?_; rintro e w1 ⟨rfl, b1⟩; have x1 := x0.keep b1; have hB1 := hB.trans (b1.mono hB.size); clear x0 hB b1; have e0 := x1.cell 0; have e1 := x1.cell 1) | (go_at_call 10; refine (D1.out _).mono ?_; rintro e w2 ⟨rfl, b2⟩; have x2 := x1.keep b2; have hB2 := hB1.trans (b2.mono hB1.size); clear x1 hB1 b2 e0 e1 D1; have e0 := x2.cell 0; have e1 := x2.cell 1) | (go_at_call 10; refine (D2.out _).mono ?_; rintro e w3 ⟨rfl, b3⟩; have x3 := x2.keep b3; have hB3 := hB2.trans (b3.mono hB2.size); clear x2 hB2 b3 e0 e1 D2; have e0 := x3.cell 0; have e1 := x3.cell 1) | (go_at_call 8; refine (D3.out _).mono ?_; rintro e w4 ⟨rfl, b4⟩; have x4 := x3.keep b4; have hB4 := hB3.trans (b4.mono hB3.size); clear x3 hB3 b4 e0 e1 D3; have e0 := x4.cell 0; have e1 := x4.cell 1))
              all_goals (go_ret; exact ⟨rfl, hB4⟩)
            · by_cases m0 : 4611686018427387904 - b < a
              · skip
                go_wp2_with (first | (go_at_call 7; refine (D0.out _).mono ?_; rintro e w1 ⟨rfl, b1⟩; have x1 := x0.keep b1; have hB1 := hB.trans (b1.mono hB.size); clear x0 hB b1; have e0 := x1.cell 0; have e1 := x1.cell 1) | (go_at_call 10; refine (D1.out _).mono ?_; rintro e w2 ⟨rfl, b2⟩; have x2 := x1.keep b2; have hB2 := hB1.trans (b2.mono hB1.size); clear x1 hB1 b2 e0 e1 D1; have e0 := x2.cell 0; have e1 := x2.cell 1) | (go_at_call 10; refine (D2.out _).mono ?_; rintro e w3 ⟨rfl, b3⟩; have x3 := x2.keep b3; have hB3 := hB2.trans (b3.mono hB2.size); clear x2 hB2 b3 e0 e1 D2; have e0 := x3.cell 0; have e1 := x3.cell 1) | (go_at_call 8; refine (D3.out _).mono ?_; rintro e w4 ⟨rfl, b4⟩; have x4 := x3.keep b4; have hB4 := hB3.trans (b4.mono hB3.size); clear x3 hB3 b4 e0 e1 D3; have e0 := x4.cell 0; have e1 := x4.cell 1))
                all_goals (go_ret; exact ⟨rfl, hB4⟩)
              · have D5 := Lib.hid (fun W => D4.out (by unfold I64; omega) W)
                clear D4
                by_cases hs : s2 = 0
                · have l7 := L6.out (by rw [hs]) (by omega) (by omega)
                  subst hs
                  go_wp2_with (first | (go_at_call 7; refine (D0.out _).mono ?_; rintro e w1 ⟨rfl, b1⟩; have x1 := x0.keep b1; have hB1 := hB.trans (b1.mono hB.size); clear x0 hB b1; have e0 := x1.cell 0; have e1 := x1.cell 1) | (go_at_call 10; refine (D1.out _).mono ?_; rintro e w2 ⟨rfl, b2⟩; have x2 := x1.keep b2; have hB2 := hB1.trans (b2.mono hB1.size); clear x1 hB1 b2 e0 e1 D1; have e0 := x2.cell 0; have e1 := x2.cell 1) | (go_at_call 10; refine (D2.out _).mono ?_; rintro e w3 ⟨rfl, b3⟩; have x3 := x2.keep b3; have hB3 := hB2.trans (b3.mono hB2.size); clear x2 hB2 b3 e0 e1 D2; have e0 := x3.cell 0; have e1 := x3.cell 1) | (go_at_call 8; refine (D3.out _).mono ?_; rintro e w4 ⟨rfl, b4⟩; have x4 := x3.keep b4; have hB4 := hB3.trans (b4.mono hB3.size); clear x3 hB3 b4 e0 e1 D3; have e0 := x4.cell 0; have e1 := x4.cell 1) | (go_at_call 10; refine (D5.out _).mono ?_; rintro e w5 ⟨rfl, b5⟩; have hB5 := hB4.trans (b5.mono hB4.size); clear x4 hB4 b5 e0 e1))
                  all_goals (go_ret; exact ⟨rfl, hB5⟩)
                · have hsb : (s2 != 0) = true := by simpa using hs
                  go_wp2_with (first | (go_at_call 7; refine (D0.out _).mono ?_; rintro e w1 ⟨rfl, b1⟩; have x1 := x0.keep b1; have hB1 := hB.trans (b1.mono hB.size); clear x0 hB b1; have e0 := x1.cell 0; have e1 := x1.cell 1) | (go_at_call 10; refine (D1.out _).mono ?_; rintro e w2 ⟨rfl, b2⟩; have x2 := x1.keep b2; have hB2 := hB1.trans (b2.mono hB1.size); clear x1 hB1 b2 e0 e1 D1; have e0 := x2.cell 0; have e1 := x2.cell 1) | (go_at_call 10; refine (D2.out _).mono ?_; rintro e w3 ⟨rfl, b3⟩; have x3 := x2.keep b3; have hB3 := hB2.trans (b3.mono hB2.size); clear x2 hB2 b3 e0 e1 D2; have e0 := x3.cell 0; have e1 := x3.cell 1) | (go_at_call 8; refine (D3.out _).mono ?_; rintro e w4 ⟨rfl, b4⟩; have x4 := x3.keep b4; have hB4 := hB3.trans (b4.mono hB3.size); clear x3 hB3 b4 e0 e1 D3; have e0 := x4.cell 0; have e1 := x4.cell 1) | (go_at_call 10; refine (D5.out _).mono ?_; rintro e w5 ⟨rfl, b5⟩; have hB5 := hB4.trans (b5.mono hB4.size); clear x4 hB4 b5 e0 e1))
                  all_goals (go_ret; exact ⟨rfl, hB5⟩)
    · have hqb : (q2 != 0) = true := by simpa using hq
      clear L1 L2 L3 L4 L5
      go_wp2_with (first | (go_at_call 7; refine (D0.out _).mono ?_; rintro e w1 ⟨rfl, b1⟩; have x1 := x0.keep b1; have hB1 := hB.trans (b1.mono hB.size); clear x0 hB b1; have e0 := x1.cell 0; have e1 := x1.cell 1) | (go_at_call 10; refine (D1.out _).mono ?_; rintro e w2 ⟨rfl, b2⟩; have x2 := x1.keep b2; have hB2 := hB1.trans (b2.mono hB1.size); clear x1 hB1 b2 e0 e1 D1; have e0 := x2.cell 0; have e1 := x2.cell 1) | (go_at_call 10; refine (D2.out _).mono ?_; rintro e w3 ⟨rfl, b3⟩; have x3 := x2.keep b3; have hB3 := hB2.trans (b3.mono hB2.size); clear x2 hB2 b3 e0 e1 D2; have e0 := x3.cell 0; have e1 := x3.cell 1))
      go_ret
      exact ⟨rfl, hB3⟩
  · have hpb : (p2 != 0) = true := by simpa using hp
    clear L1 L2 L3 L4 L5
    go_wp2_with (first | (go_at_call 7; refine (D0.out _).mono ?_; rintro e w1 ⟨rfl, b1⟩; have x1 := x0.keep b1; have hB1 := hB.trans (b1.mono hB.size); clear x0 hB b1; have e0 := x1.cell 0; have e1 := x1.cell 1) | (go_at_call 10; refine (D1.out _).mono ?_; rintro e w2 ⟨rfl, b2⟩; have x2 := x1.keep b2; have hB2 := hB1.trans (b2.mono hB1.size); clear x1 hB1 b2 e0 e1 D1; have e0 := x2.cell 0; have e1 := x2.cell 1) | (go_at_call 10; refine (D2.out _).mono ?_; rintro e w3 ⟨rfl, b3⟩; have x3 := x2.keep b3; have hB3 := hB2.trans (b3.mono hB2.size); clear x2 hB2 b3 e0 e1 D2; have e0 := x3.cell 0; have e1 := x3.cell 1))
    go_ret
    exact ⟨rfl, hB3⟩

theorem opened (H : Type) (enc : TypeId × Value → H) (W : World) (base : Nat) (args : Array Value) (ds : List (DataW H)) (p : List MemPlace)
    (hval : ∀ (j : Nat) t v, Tryd.f4.params[j]? = some t → args[j]? = some v → Value.okWide Tryd.prog W .any base t v)
    (hA : DataW.TrodAll enc Tryd.prog W 0 (fun _ => true) true Tryd.f4.params.toList args.toList ds p)
    (hr : ∀ x ∈ DataW.weightsEach Tryd.prog Tryd.f4.params.toList ds, x ≤ reachBytes)
    (hL : laidMetH Tryd.prog Rows.refRisesRow.laid W) :
    Calls Tryd.prog 4 args W fun e W' => e = .returned (.bool true) ∧ Below W.heap.size W W' := by
  rw [Tryd.params4] at hA hval hr
  have _ := hL
  obtain ⟨v0, vs0, d0, ds0, p0, q0, hargs, rfl, rfl, h0, r0⟩ := trodAll_cons hA
  obtain ⟨v1, vs1, d1, ds1, p1, q1, rfl, rfl, rfl, h1, r1⟩ := trodAll_cons r0
  obtain ⟨v2, vs2, d2, ds2, p2, q2, rfl, rfl, rfl, h2, r2⟩ := trodAll_cons r1
  obtain ⟨rfl, rfl, rfl⟩ := trodAll_nil r2
  obtain rfl : args = #[v0, v1, v2] := by cases args; simp_all
  obtain ⟨r, h, rfl, ir, _⟩ := open_cur (hval 0 23 v0 rfl rfl) h0
  obtain ⟨a, rfl, rfl, rfl, wa⟩ := open_int Tryd.underlying3 (hval 1 3 v1 rfl rfl) h1
  obtain ⟨b, rfl, rfl, rfl, wb⟩ := open_int Tryd.underlying3 (hval 2 3 v2 rfl rfl) h2
  exact walk r h a b W ir (i64_wf wa) (i64_wf wb)
end Go.Proofs.YtghcbkkabhlchaaDoor.refRises
