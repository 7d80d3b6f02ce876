/- RefShifts: the walk, and the step from the law's arguments to it. -/
import Derived.Test.YtghcbkkabhlchaaDoorRefLawBase
namespace Go.Proofs.YtghcbkkabhlchaaDoor.refShifts
open Go.ChangeShapes Go.WideShapes Go.ChangeAt Go.RowKit Go.Proofs.YtghcbkkabhlchaaDoor.Bas Go.Proofs.YtghcbkkabhlchaaDoor.FixpM Go.Proofs.YtghcbkkabhlchaaDoor.FixpW Go.Proofs.YtghcbkkabhlchaaDoor.RefW

/-- the variables of a call: the currency, what it is shifted by, the two that are shifted -/
structure Trio (w W : World) (bd bh : Nat) (r h m0 m1 rd hh : Int) : Prop where
  c : Box W w.heap.size 23 #[.int .i64 r, .int .i64 h]
  m : Box W (w.heap.size + 1) 30 #[.int .i64 m0, .int .i64 m1]
  d : Box W bd 23 #[.int .i64 rd, .int .i64 h]
  e : Box W bh 23 #[.int .i64 r, .int .i64 hh]
  low : Below w.heap.size w W
  hd : w.heap.size + 2 ≤ bd
  hh : w.heap.size + 2 ≤ bh
  ne : bd ≠ bh
theorem Trio.keep {w A B : World} {bd bh : Nat} {r h m0 m1 rd hh : Int} (t : Trio w A bd bh r h m0 m1 rd hh) (hb : Below A.heap.size A B) : Trio w B bd bh r h m0 m1 rd hh :=
  ⟨t.c.keep hb, t.m.keep hb, t.d.keep hb, t.e.keep hb, t.low.trans (hb.mono t.low.size), t.hd, t.hh, t.ne⟩
theorem Trio.setD {w A : World} {bd bh : Nat} {r h m0 m1 rd hh : Int} (t : Trio w A bd bh r h m0 m1 rd hh) (x : Int) : Trio w (A.setCell ⟨bd, 0, none⟩ (.int .i64 x)) bd bh r h m0 m1 x hh := by
  have h1 := t.hd
  have h2 := t.hh
  have h3 := t.ne
  exact ⟨t.c.far (by simp; omega) _, t.m.far (by simp; omega) _, t.d.set 0 _, t.e.far (by simp; omega) _, t.low.setCell (p := ⟨bd, 0, none⟩) (by simp; omega) _, h1, h2, h3⟩
theorem Trio.setH {w A : World} {bd bh : Nat} {r h m0 m1 rd hh : Int} (t : Trio w A bd bh r h m0 m1 rd hh) (x : Int) : Trio w (A.setCell ⟨bh, 1, none⟩ (.int .i64 x)) bd bh r h m0 m1 rd x := by
  have h1 := t.hd
  have h2 := t.hh
  have h3 := t.ne
  exact ⟨t.c.far (by simp; omega) _, t.m.far (by simp; omega) _, t.d.far (by simp; omega) _, t.e.set 1 _, t.low.setCell (p := ⟨bh, 1, none⟩) (by simp; omega) _, h1, h2, h3⟩
theorem two_new (w : World) (t : TypeId) (C : Array Value) : Box ((w.alloc (.cells C t)).alloc (.cells C t)).drew w.heap.size t C ∧ Box ((w.alloc (.cells C t)).alloc (.cells C t)).drew (w.heap.size + 1) t C ∧ Below w.heap.size w ((w.alloc (.cells C t)).alloc (.cells C t)).drew := by
  have b1 : Box ((w.alloc (.cells C t)).alloc (.cells C t)) w.heap.size t C := (Box.new w t C).alloc _
  have b2 := Box.new (w.alloc (.cells C t)) t C
  simp only [World.size_alloc] at b2
  have b3 : Below w.heap.size w ((w.alloc (.cells C t)).alloc (.cells C t)) := ((Below.refl _ _).alloc (Nat.le_refl _) _).alloc (by simp) _
  exact ⟨b1, b2, b3.os, b3.tape, b3.output, b3.size, b3.block⟩

set_option maxHeartbeats 4000000 in
theorem walk (r h m0 m1 a : Int) (w : World) (hr : I64 r) (ha : I64 a) :
    Calls Tryd.prog 5 #[curV r h, .agg #[.int .i64 m0, .int .i64 m1], .int .i64 a] w fun e w' => e = .returned (.bool true) ∧ Below w.heap.size w w' := by
  unfold curV
  have D0 := Lib.hid (fun W => wakes_calls W)
  have DC := Lib.hid (fun W => cur_calls r h 1 W)
  have hB : Below w.heap.size w ((w.alloc (.cells #[.int .i64 r, .int .i64 h] 23)).alloc (.cells #[.int .i64 m0, .int .i64 m1] 30)) := ((Below.refl _ _).alloc (Nat.le_refl _) _).alloc (by simp) _
  have x0 : Box ((w.alloc (.cells #[.int .i64 r, .int .i64 h] 23)).alloc (.cells #[.int .i64 m0, .int .i64 m1] 30)) w.heap.size 23 #[.int .i64 r, .int .i64 h] := (Box.new w _ _).alloc _
  have y0 : Box ((w.alloc (.cells #[.int .i64 r, .int .i64 h] 23)).alloc (.cells #[.int .i64 m0, .int .i64 m1] 30)) (w.heap.size + 1) 30 #[.int .i64 m0, .int .i64 m1] := by
    have := Box.new (w.alloc (.cells #[.int .i64 r, .int .i64 h] 23)) 30 #[.int .i64 m0, .int .i64 m1]
    simpa using this
  go_enter Tryd.func5, Tryd.ntmps5
  go_upto_region 1 with fail
  generalize ((w.alloc (.cells #[.int .i64 r, .int .i64 h] 23)).alloc (.cells #[.int .i64 m0, .int .i64 m1] 30)) = w0 at hB x0 y0 ⊢
  go_upto_region 3 with (go_at_call 7; refine (D0.out _).mono ?_; rintro e w1 ⟨rfl, b1⟩; have x1 := x0.keep b1; have y1 := y0.keep b1; have hB1 := hB.trans (b1.mono hB.size); clear x0 y0 hB b1; have e0 := x1.cell 0; have e1 := x1.cell 1; have z1 := x1.lt; have z2 := y1.lt)
  go_region
  · obtain ⟨n1, n2, n3⟩ := two_new w1 23 #[.int .i64 r, .int .i64 h]
    have T : Trio w ((w1.alloc (.cells #[.int .i64 r, .int .i64 h] 23)).alloc (.cells #[.int .i64 r, .int .i64 h] 23)).drew w1.heap.size (w1.heap.size + 1) r h m0 m1 r h := ⟨x1.keep n3, y1.keep n3, n1, n2, hB1.trans (n3.mono hB1.size), by omega, by omega, by omega⟩
    generalize ((w1.alloc (.cells #[.int .i64 r, .int .i64 h] 23)).alloc (.cells #[.int .i64 r, .int .i64 h] 23)).drew = w2 at T ⊢
    generalize hbh : w1.heap.size + 1 = bh at T ⊢
    generalize w1.heap.size = bd at T ⊢
    clear hbh x1 y1 e0 e1 z1 z2 n1 n2 n3 hB1
    have t0 := T.c.cell 0
    have t1 := T.c.cell 1
    have t2 := T.m.cell 0
    have t3 := T.m.cell 1
    by_cases k0 : m0 < 0
    · go_wp2_with fail
      all_goals (go_ret; exact ⟨rfl, T.low⟩)
    · by_cases k1 : 1000000000000 < m0
      · go_wp2_with fail
        all_goals (go_ret; exact ⟨rfl, T.low⟩)
      · by_cases k2 : m1 < 0
        · go_wp2_with fail
          all_goals (go_ret; exact ⟨rfl, T.low⟩)
        · by_cases k3 : 10000 < m1
          · go_wp2_with fail
            all_goals (go_ret; exact ⟨rfl, T.low⟩)
          · by_cases hc : curF r h 1 = true
            · have hcc := (curF_iff r h 1).1 hc
              have D1 := Lib.hid (fun W => worth_calls r h a W ha hr)
              have D2 := Lib.hid (fun W => worth_calls (r + m0) h a W ha (by unfold I64; omega))
              have D3 := Lib.hid (fun W => worth_calls r (h + m1) a W ha hr)
              have L1 := fun (x y : Int) (e : worthF r h a = (x, 0)) (f : worthF (r + m0) h a = (y, 0)) => rate_le e f (by omega)
              have L2 := fun (x z : Int) (e : worthF r h a = (x, 0)) (f : worthF r (h + m1) a = (z, 0)) => hair_le e f (by omega)
              have DC' := Lib.hid (fun W => hc ▸ DC.out W)
              generalize worthF r h a = p at D1 L1 L2
              generalize worthF (r + m0) h a = q at D2 L1
              generalize worthF r (h + m1) a = s at D3 L2
              obtain ⟨p1, p2⟩ := p
              obtain ⟨q1, q2⟩ := q
              obtain ⟨s1, s2⟩ := s
              unfold curV at D1 D2 D3 DC'
              clear hc DC hr ha
              go_upto_region 8 with (go_at_call 12; refine (DC'.out _).mono ?_; rintro e w3 ⟨rfl, b3⟩; have T3 := T.keep b3; clear T b3; have f0 := T3.d.cell 0; have f1 := T3.d.frozen 0; have f2 := T3.m.cell 0; have f3 := T3.m.cell 1; have u0 := T3.c.cell 0; have u1 := T3.c.cell 1; have g0 := (T3.setD (r + m0)).e.cell 1; have g1 := (T3.setD (r + m0)).e.frozen 1; have g2 := (T3.setD (r + m0)).m.cell 0; have g3 := (T3.setD (r + m0)).m.cell 1)
              have T5 := (T3.setD (r + m0)).setH (h + m1)
              clear f0 f1 f2 f3 g0 g1 g2 g3 u0 u1 T3 t0 t1 t2 t3
              generalize (w3.setCell ⟨bd, 0, none⟩ (.int .i64 (r + m0))).setCell ⟨bh, 1, none⟩ (.int .i64 (h + m1)) = w4 at T5 ⊢
              have v0 := T5.c.cell 0
              have v1 := T5.c.cell 1
              by_cases hp : p2 = 0
              · subst hp
                have l1 := L1 p1 q1 rfl
                have l2 := L2 p1 s1 rfl
                have A1 := Lib.hid l1
                have A2 := Lib.hid l2
                clear L1 L2 l1 l2
                by_cases ha0 : a < 0
                · by_cases hq : q2 = 0
                  · subst hq
                    have l1 := (A1.out rfl).2 ha0
                    by_cases hs : s2 = 0
                    · subst hs
                      have l2 := A2.out rfl
                      go_wp2_with (first | (go_at_call 10; refine (D1.out _).mono ?_; rintro e w5 ⟨rfl, b5⟩; have T6 := T5.keep b5; clear b5 D1 v0 v1; have v0 := T6.d.cell 0; have v1 := T6.d.cell 1) | (go_at_call 10; refine (D2.out _).mono ?_; rintro e w6 ⟨rfl, b6⟩; have T7 := T6.keep b6; clear b6 D2 v0 v1; have v0 := T7.e.cell 0; have v1 := T7.e.cell 1) | (go_at_call 10; refine (D3.out _).mono ?_; rintro e w7 ⟨rfl, b7⟩; have T8 := T7.keep b7; clear b7 D3 v0 v1))
                      all_goals (go_ret; exact ⟨rfl, T8.low⟩)
                    · have hsb : (s2 != 0) = true := by simpa using hs
                      go_wp2_with (first | (go_at_call 10; refine (D1.out _).mono ?_; rintro e w5 ⟨rfl, b5⟩; have T6 := T5.keep b5; clear b5 D1 v0 v1; have v0 := T6.d.cell 0; have v1 := T6.d.cell 1) | (go_at_call 10; refine (D2.out _).mono ?_; rintro e w6 ⟨rfl, b6⟩; have T7 := T6.keep b6; clear b6 D2 v0 v1; have v0 := T7.e.cell 0; have v1 := T7.e.cell 1) | (go_at_call 10; refine (D3.out _).mono ?_; rintro e w7 ⟨rfl, b7⟩; have T8 := T7.keep b7; clear b7 D3 v0 v1))
                      all_goals (go_ret; exact ⟨rfl, T8.low⟩)
                  · have hqb : (q2 == 0) = false := by simpa using hq
                    by_cases hs : s2 = 0
                    · subst hs
                      have l2 := A2.out rfl
                      go_wp2_with (first | (go_at_call 10; refine (D1.out _).mono ?_; rintro e w5 ⟨rfl, b5⟩; have T6 := T5.keep b5; clear b5 D1 v0 v1; have v0 := T6.d.cell 0; have v1 := T6.d.cell 1) | (go_at_call 10; refine (D2.out _).mono ?_; rintro e w6 ⟨rfl, b6⟩; have T7 := T6.keep b6; clear b6 D2 v0 v1; have v0 := T7.e.cell 0; have v1 := T7.e.cell 1) | (go_at_call 10; refine (D3.out _).mono ?_; rintro e w7 ⟨rfl, b7⟩; have T8 := T7.keep b7; clear b7 D3 v0 v1))
                      all_goals (go_ret; exact ⟨rfl, T8.low⟩)
                    · have hsb : (s2 != 0) = true := by simpa using hs
                      go_wp2_with (first | (go_at_call 10; refine (D1.out _).mono ?_; rintro e w5 ⟨rfl, b5⟩; have T6 := T5.keep b5; clear b5 D1 v0 v1; have v0 := T6.d.cell 0; have v1 := T6.d.cell 1) | (go_at_call 10; refine (D2.out _).mono ?_; rintro e w6 ⟨rfl, b6⟩; have T7 := T6.keep b6; clear b6 D2 v0 v1; have v0 := T7.e.cell 0; have v1 := T7.e.cell 1) | (go_at_call 10; refine (D3.out _).mono ?_; rintro e w7 ⟨rfl, b7⟩; have T8 := T7.keep b7; clear b7 D3 v0 v1))
                      all_goals (go_ret; exact ⟨rfl, T8.low⟩)
                · by_cases hq : q2 = 0
                  · subst hq
                    have l1 := (A1.out rfl).1 (by omega)
                    by_cases hs : s2 = 0
                    · subst hs
                      have l2 := A2.out rfl
                      go_wp2_with (first | (go_at_call 10; refine (D1.out _).mono ?_; rintro e w5 ⟨rfl, b5⟩; have T6 := T5.keep b5; clear b5 D1 v0 v1; have v0 := T6.d.cell 0; have v1 := T6.d.cell 1) | (go_at_call 10; refine (D2.out _).mono ?_; rintro e w6 ⟨rfl, b6⟩; have T7 := T6.keep b6; clear b6 D2 v0 v1; have v0 := T7.e.cell 0; have v1 := T7.e.cell 1) | (go_at_call 10; refine (D3.out _).mono ?_; rintro e w7 ⟨rfl, b7⟩; have T8 := T7.keep b7; clear b7 D3 v0 v1))
                      all_goals (go_ret; exact ⟨rfl, T8.low⟩)
                    · have hsb : (s2 != 0) = true := by simpa using hs
                      go_wp2_with (first | (go_at_call 10; refine (D1.out _).mono ?_; rintro e w5 ⟨rfl, b5⟩; have T6 := T5.keep b5; clear b5 D1 v0 v1; have v0 := T6.d.cell 0; have v1 := T6.d.cell 1) | (go_at_call 10; refine (D2.out _).mono ?_; rintro e w6 ⟨rfl, b6⟩; have T7 := T6.keep b6; clear b6 D2 v0 v1; have v0 := T7.e.cell 0; have v1 := T7.e.cell 1) | (go_at_call 10; refine (D3.out _).mono ?_; rintro e w7 ⟨rfl, b7⟩; have T8 := T7.keep b7; clear b7 D3 v0 v1))
                      all_goals (go_ret; exact ⟨rfl, T8.low⟩)
                  · have hqb : (q2 == 0) = false := by simpa using hq
                    by_cases hs : s2 = 0
                    · subst hs
                      have l2 := A2.out rfl
                      go_wp2_with (first | (go_at_call 10; refine (D1.out _).mono ?_; rintro e w5 ⟨rfl, b5⟩; have T6 := T5.keep b5; clear b5 D1 v0 v1; have v0 := T6.d.cell 0; have v1 := T6.d.cell 1) | (go_at_call 10; refine (D2.out _).mono ?_; rintro e w6 ⟨rfl, b6⟩; have T7 := T6.keep b6; clear b6 D2 v0 v1; have v0 := T7.e.cell 0; have v1 := T7.e.cell 1) | (go_at_call 10; refine (D3.out _).mono ?_; rintro e w7 ⟨rfl, b7⟩; have T8 := T7.keep b7; clear b7 D3 v0 v1))
                      all_goals (go_ret; exact ⟨rfl, T8.low⟩)
                    · have hsb : (s2 != 0) = true := by simpa using hs
                      go_wp2_with (first | (go_at_call 10; refine (D1.out _).mono ?_; rintro e w5 ⟨rfl, b5⟩; have T6 := T5.keep b5; clear b5 D1 v0 v1; have v0 := T6.d.cell 0; have v1 := T6.d.cell 1) | (go_at_call 10; refine (D2.out _).mono ?_; rintro e w6 ⟨rfl, b6⟩; have T7 := T6.keep b6; clear b6 D2 v0 v1; have v0 := T7.e.cell 0; have v1 := T7.e.cell 1) | (go_at_call 10; refine (D3.out _).mono ?_; rintro e w7 ⟨rfl, b7⟩; have T8 := T7.keep b7; clear b7 D3 v0 v1))
                      all_goals (go_ret; exact ⟨rfl, T8.low⟩)
              · have hpb : (p2 != 0) = true := by simpa using hp
                clear L1 L2
                go_wp2_with (first | (go_at_call 10; refine (D1.out _).mono ?_; rintro e w5 ⟨rfl, b5⟩; have T6 := T5.keep b5; clear b5 D1 v0 v1; have v0 := T6.d.cell 0; have v1 := T6.d.cell 1) | (go_at_call 10; refine (D2.out _).mono ?_; rintro e w6 ⟨rfl, b6⟩; have T7 := T6.keep b6; clear b6 D2 v0 v1; have v0 := T7.e.cell 0; have v1 := T7.e.cell 1) | (go_at_call 10; refine (D3.out _).mono ?_; rintro e w7 ⟨rfl, b7⟩; have T8 := T7.keep b7; clear b7 D3 v0 v1))
                all_goals (go_ret; exact ⟨rfl, T8.low⟩)
            · have hf : curF r h 1 = false := by simpa using hc
              have DC' := Lib.hid (fun W => hf ▸ DC.out W)
              unfold curV at DC'
              clear hc hf DC
              go_wp2_with (go_at_call 12; refine (DC'.out _).mono ?_; rintro e w3 ⟨rfl, b3⟩; have T3 := T.keep b3)
              all_goals (go_ret; exact ⟨rfl, T3.low⟩)
  · obtain ⟨n1, n2, n3⟩ := two_new w1 23 #[.int .i64 r, .int .i64 h]
    have T : Trio w ((w1.alloc (.cells #[.int .i64 r, .int .i64 h] 23)).alloc (.cells #[.int .i64 r, .int .i64 h] 23)).drew (w1.heap.size + 1) w1.heap.size r h m0 m1 r h := ⟨x1.keep n3, y1.keep n3, n2, n1, hB1.trans (n3.mono hB1.size), by omega, by omega, by omega⟩
    generalize ((w1.alloc (.cells #[.int .i64 r, .int .i64 h] 23)).alloc (.cells #[.int .i64 r, .int .i64 h] 23)).drew = w2 at T ⊢
    generalize hbh : w1.heap.size + 1 = bd at T ⊢
    generalize w1.heap.size = bh at T ⊢
    clear hbh x1 y1 e0 e1 z1 z2 n1 n2 n3 hB1
    have t0 := T.c.cell 0
    have t1 := T.c.cell 1
    have t2 := T.m.cell 0
    have t3 := T.m.cell 1
    by_cases k0 : m0 < 0
    · go_wp2_with fail
      all_goals (go_ret; exact ⟨rfl, T.low⟩)
    · by_cases k1 : 1000000000000 < m0
      · go_wp2_with fail
        all_goals (go_ret; exact ⟨rfl, T.low⟩)
      · by_cases k2 : m1 < 0
        · go_wp2_with fail
          all_goals (go_ret; exact ⟨rfl, T.low⟩)
        · by_cases k3 : 10000 < m1
          · go_wp2_with fail
            all_goals (go_ret; exact ⟨rfl, T.low⟩)
          · by_cases hc : curF r h 1 = true
            · have hcc := (curF_iff r h 1).1 hc
              have D1 := Lib.hid (fun W => worth_calls r h a W ha hr)
              have D2 := Lib.hid (fun W => worth_calls (r + m0) h a W ha (by unfold I64; omega))
              have D3 := Lib.hid (fun W => worth_calls r (h + m1) a W ha hr)
              have L1 := fun (x y : Int) (e : worthF r h a = (x, 0)) (f : worthF (r + m0) h a = (y, 0)) => rate_le e f (by omega)
              have L2 := fun (x z : Int) (e : worthF r h a = (x, 0)) (f : worthF r (h + m1) a = (z, 0)) => hair_le e f (by omega)
              have DC' := Lib.hid (fun W => hc ▸ DC.out W)
              generalize worthF r h a = p at D1 L1 L2
              generalize worthF (r + m0) h a = q at D2 L1
              generalize worthF r (h + m1) a = s at D3 L2
              obtain ⟨p1, p2⟩ := p
              obtain ⟨q1, q2⟩ := q
              obtain ⟨s1, s2⟩ := s
              unfold curV at D1 D2 D3 DC'
              clear hc DC hr ha
              go_upto_region 8 with (go_at_call 12; refine (DC'.out _).mono ?_; rintro e w3 ⟨rfl, b3⟩; have T3 := T.keep b3; clear T b3; have f0 := T3.d.cell 0; have f1 := T3.d.frozen 0; have f2 := T3.m.cell 0; have f3 := T3.m.cell 1; have u0 := T3.c.cell 0; have u1 := T3.c.cell 1; have g0 := (T3.setD (r + m0)).e.cell 1; have g1 := (T3.setD (r + m0)).e.frozen 1; have g2 := (T3.setD (r + m0)).m.cell 0; have g3 := (T3.setD (r + m0)).m.cell 1)
              have T5 := (T3.setD (r + m0)).setH (h + m1)
              clear f0 f1 f2 f3 g0 g1 g2 g3 u0 u1 T3 t0 t1 t2 t3
              generalize (w3.setCell ⟨bd, 0, none⟩ (.int .i64 (r + m0))).setCell ⟨bh, 1, none⟩ (.int .i64 (h + m1)) = w4 at T5 ⊢
              have v0 := T5.c.cell 0
              have v1 := T5.c.cell 1
              by_cases hp : p2 = 0
              · subst hp
                have l1 := L1 p1 q1 rfl
                have l2 := L2 p1 s1 rfl
                have A1 := Lib.hid l1
                have A2 := Lib.hid l2
                clear L1 L2 l1 l2
                by_cases ha0 : a < 0
                · by_cases hq : q2 = 0
                  · subst hq
                    have l1 := (A1.out rfl).2 ha0
                    by_cases hs : s2 = 0
                    · subst hs
                      have l2 := A2.out rfl
                      go_wp2_with (first | (go_at_call 10; refine (D1.out _).mono ?_; rintro e w5 ⟨rfl, b5⟩; have T6 := T5.keep b5; clear b5 D1 v0 v1; have v0 := T6.d.cell 0; have v1 := T6.d.cell 1) | (go_at_call 10; refine (D2.out _).mono ?_; rintro e w6 ⟨rfl, b6⟩; have T7 := T6.keep b6; clear b6 D2 v0 v1; have v0 := T7.e.cell 0; have v1 := T7.e.cell 1) | (go_at_call 10; refine (D3.out _).mono ?_; rintro e w7 ⟨rfl, b7⟩; have T8 := T7.keep b7; clear b7 D3 v0 v1))
                      all_goals (go_ret; exact ⟨rfl, T8.low⟩)
                    · have hsb : (s2 != 0) = true := by simpa using hs
                      go_wp2_with (first | (go_at_call 10; refine (D1.out _).mono ?_; rintro e w5 ⟨rfl, b5⟩; have T6 := T5.keep b5; clear b5 D1 v0 v1; have v0 := T6.d.cell 0; have v1 := T6.d.cell 1) | (go_at_call 10; refine (D2.out _).mono ?_; rintro e w6 ⟨rfl, b6⟩; have T7 := T6.keep b6; clear b6 D2 v0 v1; have v0 := T7.e.cell 0; have v1 := T7.e.cell 1) | (go_at_call 10; refine (D3.out _).mono ?_; rintro e w7 ⟨rfl, b7⟩; have T8 := T7.keep b7; clear b7 D3 v0 v1))
                      all_goals (go_ret; exact ⟨rfl, T8.low⟩)
                  · have hqb : (q2 == 0) = false := by simpa using hq
                    by_cases hs : s2 = 0
                    · subst hs
                      have l2 := A2.out rfl
                      go_wp2_with (first | (go_at_call 10; refine (D1.out _).mono ?_; rintro e w5 ⟨rfl, b5⟩; have T6 := T5.keep b5; clear b5 D1 v0 v1; have v0 := T6.d.cell 0; have v1 := T6.d.cell 1) | (go_at_call 10; refine (D2.out _).mono ?_; rintro e w6 ⟨rfl, b6⟩; have T7 := T6.keep b6; clear b6 D2 v0 v1; have v0 := T7.e.cell 0; have v1 := T7.e.cell 1) | (go_at_call 10; refine (D3.out _).mono ?_; rintro e w7 ⟨rfl, b7⟩; have T8 := T7.keep b7; clear b7 D3 v0 v1))
                      all_goals (go_ret; exact ⟨rfl, T8.low⟩)
                    · have hsb : (s2 != 0) = true := by simpa using hs
                      go_wp2_with (first | (go_at_call 10; refine (D1.out _).mono ?_; rintro e w5 ⟨rfl, b5⟩; have T6 := T5.keep b5; clear b5 D1 v0 v1; have v0 := T6.d.cell 0; have v1 := T6.d.cell 1) | (go_at_call 10; refine (D2.out _).mono ?_; rintro e w6 ⟨rfl, b6⟩; have T7 := T6.keep b6; clear b6 D2 v0 v1; have v0 := T7.e.cell 0; have v1 := T7.e.cell 1) | (go_at_call 10; refine (D3.out _).mono ?_; rintro e w7 ⟨rfl, b7⟩; have T8 := T7.keep b7; clear b7 D3 v0 v1))
                      all_goals (go_ret; exact ⟨rfl, T8.low⟩)
                · by_cases hq : q2 = 0
                  · subst hq
                    have l1 := (A1.out rfl).1 (by omega)
                    by_cases hs : s2 = 0
                    · subst hs
                      have l2 := A2.out rfl
                      go_wp2_with (first | (go_at_call 10; refine (D1.out _).mono ?_; rintro e w5 ⟨rfl, b5⟩; have T6 := T5.keep b5; clear b5 D1 v0 v1; have v0 := T6.d.cell 0; have v1 := T6.d.cell 1) | (go_at_call 10; refine (D2.out _).mono ?_; rintro e w6 ⟨rfl, b6⟩; have T7 := T6.keep b6; clear b6 D2 v0 v1; have v0 := T7.e.cell 0; have v1 := T7.e.cell 1) | (go_at_call 10; refine (D3.out _).mono ?_; rintro e w7 ⟨rfl, b7⟩; have T8 := T7.keep b7; clear b7 D3 v0 v1))
                      all_goals (go_ret; exact ⟨rfl, T8.low⟩)
                    · have hsb : (s2 != 0) = true := by simpa using hs
                      go_wp2_with (first | (go_at_call 10; refine (D1.out _).mono ?_; rintro e w5 ⟨rfl, b5⟩; have T6 := T5.keep b5; clear b5 D1 v0 v1; have v0 := T6.d.cell 0; have v1 := T6.d.cell 1) | (go_at_call 10; refine (D2.out _).mono ?_; rintro e w6 ⟨rfl, b6⟩; have T7 := T6.keep b6; clear b6 D2 v0 v1; have v0 := T7.e.cell 0; have v1 := T7.e.cell 1) | (go_at_call 10; refine (D3.out _).mono ?_; rintro e w7 ⟨rfl, b7⟩; have T8 := T7.keep b7; clear b7 D3 v0 v1))
                      all_goals (go_ret; exact ⟨rfl, T8.low⟩)
                  · have hqb : (q2 == 0) = false := by simpa using hq
                    by_cases hs : s2 = 0
                    · subst hs
                      have l2 := A2.out rfl
                      go_wp2_with (first | (go_at_call 10; refine (D1.out _).mono ?_; rintro e w5 ⟨rfl, b5⟩; have T6 := T5.keep b5; clear b5 D1 v0 v1; have v0 := T6.d.cell 0; have v1 := T6.d.cell 1) | (go_at_call 10; refine (D2.out _).mono ?_; rintro e w6 ⟨rfl, b6⟩; have T7 := T6.keep b6; clear b6 D2 v0 v1; have v0 := T7.e.cell 0; have v1 := T7.e.cell 1) | (go_at_call 10; refine (D3.out _).mono ?_; rintro e w7 ⟨rfl, b7⟩; have T8 := T7.keep b7; clear b7 D3 v0 v1))
                      all_goals (go_ret; exact ⟨rfl, T8.low⟩)
                    · have hsb : (s2 != 0) = true := by simpa using hs
                      go_wp2_with (first | (go_at_call 10; refine (D1.out _).mono ?_; rintro e w5 ⟨rfl, b5⟩; have T6 := T5.keep b5; clear b5 D1 v0 v1; have v0 := T6.d.cell 0; have v1 := T6.d.cell 1) | (go_at_call 10; refine (D2.out _).mono ?_; rintro e w6 ⟨rfl, b6⟩; have T7 := T6.keep b6; clear b6 D2 v0 v1; have v0 := T7.e.cell 0; have v1 := T7.e.cell 1) | (go_at_call 10; refine (D3.out _).mono ?_; rintro e w7 ⟨rfl, b7⟩; have T8 := T7.keep b7; clear b7 D3 v0 v1))
                      all_goals (go_ret; exact ⟨rfl, T8.low⟩)
              · have hpb : (p2 != 0) = true := by simpa using hp
                clear L1 L2
                go_wp2_with (first | (go_at_call 10; refine (D1.out _).mono ?_; rintro e w5 ⟨rfl, b5⟩; have T6 := T5.keep b5; clear b5 D1 v0 v1; have v0 := T6.d.cell 0; have v1 := T6.d.cell 1) | (go_at_call 10; refine (D2.out _).mono ?_; rintro e w6 ⟨rfl, b6⟩; have T7 := T6.keep b6; clear b6 D2 v0 v1; have v0 := T7.e.cell 0; have v1 := T7.e.cell 1) | (go_at_call 10; refine (D3.out _).mono ?_; rintro e w7 ⟨rfl, b7⟩; have T8 := T7.keep b7; clear b7 D3 v0 v1))
                all_goals (go_ret; exact ⟨rfl, T8.low⟩)
            · have hf : curF r h 1 = false := by simpa using hc
              have DC' := Lib.hid (fun W => hf ▸ DC.out W)
              unfold curV at DC'
              clear hc hf DC
              go_wp2_with (go_at_call 12; refine (DC'.out _).mono ?_; rintro e w3 ⟨rfl, b3⟩; have T3 := T.keep b3)
              all_goals (go_ret; exact ⟨rfl, T3.low⟩)

theorem opened (H : Type) (enc : TypeId × Value → H) (W : World) (base : Nat) (args : Array Value) (ds : List (DataW H)) (p : List MemPlace)
    (hval : ∀ (j : Nat) t v, Tryd.f5.params[j]? = some t → args[j]? = some v → Value.okWide Tryd.prog W .any base t v)
    (hA : DataW.TrodAll enc Tryd.prog W 0 (fun _ => true) true Tryd.f5.params.toList args.toList ds p)
    (hr : ∀ x ∈ DataW.weightsEach Tryd.prog Tryd.f5.params.toList ds, x ≤ reachBytes)
    (hL : laidMetH Tryd.prog Rows.refShiftsRow.laid W) :
    Calls Tryd.prog 5 args W fun e W' => e = .returned (.bool true) ∧ Below W.heap.size W W' := by
  rw [Tryd.params5] at hA hval hr
  have _ := hL
  obtain ⟨v0, vs0, d0, ds0, p0, q0, hargs, rfl, rfl, h0, r0⟩ := trodAll_cons hA
  obtain ⟨v1, vs1, d1, ds1, p1, q1, rfl, rfl, rfl, h1, r1⟩ := trodAll_cons r0
  obtain ⟨v2, vs2, d2, ds2, p2, q2, rfl, rfl, rfl, h2, r2⟩ := trodAll_cons r1
  obtain ⟨rfl, rfl, rfl⟩ := trodAll_nil r2
  obtain rfl : args = #[v0, v1, v2] := by cases args; simp_all
  obtain ⟨r, h, rfl, ir, _⟩ := open_cur (hval 0 23 v0 rfl rfl) h0
  obtain ⟨zs, rfl, hz, _⟩ := open_arr_int Tryd.underlying30 Tryd.underlying3 cells64 (by kernel_rfl) (hval 1 30 v1 rfl rfl) h1
  obtain ⟨a, rfl, rfl, rfl, wa⟩ := open_int Tryd.underlying3 (hval 2 3 v2 rfl rfl) h2
  match zs, hz with
  | [m0, m1], _ => exact walk r h m0 m1 a W ir (i64_wf wa)
end Go.Proofs.YtghcbkkabhlchaaDoor.refShifts
