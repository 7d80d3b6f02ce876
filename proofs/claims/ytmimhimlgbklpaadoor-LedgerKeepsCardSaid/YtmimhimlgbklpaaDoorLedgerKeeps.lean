/- LedgerKeeps: the walk, and the step from the law's arguments to it. Written by genkeeps.py. -/
import Derived.Test.YtmimhimlgbklpaaDoorLedSpoil
set_option linter.unusedSimpArgs false
set_option linter.unusedVariables false
namespace Go.Proofs.YtmimhimlgbklpaaDoor.ledgerKeeps
open Go.ChangeShapes Go.WideShapes Go.ChangeAt Go.RowKit Go.Proofs.YtmimhimlgbklpaaDoor.Bas Go.Proofs.YtmimhimlgbklpaaDoor.LedM Go.Proofs.YtmimhimlgbklpaaDoor.LedW

theorem own_lo {lo hi : Nat} {A B : World} (h : Only lo hi A B) {b : Nat} {e : TypeId} {z : Nat} {v : Value} {n : Nat} {xs : List Value} (ho : A.ownsRow b e z v n xs) (hb : ∀ g, v.ownBlock = some g → g < lo) : B.ownsRow b e z v n xs := by
  refine ⟨ho.1, ?_⟩
  rcases ho.2 with hn | ⟨g, cap, cur, rfl, hbg, hg, rest⟩
  · exact .inl hn
  · refine .inr ⟨g, cap, cur, rfl, hbg, ?_, rest⟩
    rw [h.block g (Array.getElem?_eq_some_iff.1 hg).1 (.inl (hb g rfl))]
    exact hg
theorem top_lt {lo' lo : Nat} (h : lo' ≤ lo) {a : Option Addr} {n c : Nat} (ht : ∀ x, a = some x → x.block < lo') : ∀ g, (Value.slice a n c).ownBlock = some g → g < lo := fun g hg => by
  cases a with
  | none => simp [Value.ownBlock] at hg
  | some x =>
    simp [Value.ownBlock] at hg
    have := ht x rfl
    omega
theorem led_lo {lo hi lo' : Nat} {A B : World} (h : Only lo hi A B) {b : Nat} {s : Lists} {l : Led} {us : List (Value × Acc)} (ho : LedOwn b A s l us) (ht : Top lo' s us) (hl : lo' ≤ lo) : LedOwn b B s l us :=
  ⟨own_lo h ho.curs (top_lt hl ht.t1), own_lo h ho.unders (top_lt hl ht.t2), own_lo h ho.instrs (top_lt hl ht.t3), own_lo h ho.accts (top_lt hl ht.t4), own_lo h ho.poss (top_lt hl ht.t5), own_lo h ho.orders (top_lt hl ht.t6), own_lo h ho.avail (top_lt hl ht.t7), own_lo h ho.locs (top_lt hl ht.t8), ho.each, fun x hx => own_lo h (ho.cash x hx) (fun g hg => by have := ht.cash x hx g hg; omega), ho.dist, ho.free⟩
/-- a ledger that the law has made: its box, its lists from one block to another -/
structure It (W : World) (g base hi : Nat) (s : Lists) (l : Led) (us : List (Value × Acc)) : Prop where
  own : LedOwn base W s l us
  top : Top hi s us
  box : Box W g 37 #[.int .i64 l.day, .slice s.a1 l.curs.length s.c1, .slice s.a2 l.unders.length s.c2, .slice s.a3 l.instrs.length s.c3, .slice s.a4 l.accts.length s.c4, .slice s.a5 l.poss.length s.c5, .slice s.a6 l.orders.length s.c6, .slice s.a7 l.avail.length s.c7, .slice s.a8 l.locs.length s.c8]
section
variable {A B : World} {g base hi lo' hi' : Nat} {s : Lists} {l : Led} {us : List (Value × Acc)}
theorem It.keep (h : It A g base hi s l us) (b : Below A.heap.size A B) : It B g base hi s l us := ⟨h.own.below b, h.top, h.box.keep b⟩
theorem It.above (h : It A g base hi s l us) (o : Only lo' hi' A B) (h1 : hi' ≤ base) (h2 : hi' ≤ g) : It B g base hi s l us := ⟨o.led h.own h1, h.top, o.box h.box (.inr h2)⟩
theorem It.under (h : It A g base hi s l us) (o : Only lo' hi' A B) (h1 : hi ≤ lo') (h2 : g < lo') : It B g base hi s l us := ⟨led_lo o h.own h.top h1, h.top, o.box h.box (.inl h2)⟩
theorem It.new {W : World} (h : LedOwn base W s l us) : It (W.alloc (.cells #[.int .i64 l.day, .slice s.a1 l.curs.length s.c1, .slice s.a2 l.unders.length s.c2, .slice s.a3 l.instrs.length s.c3, .slice s.a4 l.accts.length s.c4, .slice s.a5 l.poss.length s.c5, .slice s.a6 l.orders.length s.c6, .slice s.a7 l.avail.length s.c7, .slice s.a8 l.locs.length s.c8] 37)) W.heap.size base W.heap.size s l us := ⟨h.below ((Below.refl _ _).alloc (Nat.le_refl _) _), h.top, Box.new _ _ _⟩
theorem ledH_only {w : World} {vs : List (Value × Acc)} (h : LedH w A w.heap.size s l vs) (hat : LedAt w s l vs) (o : Only lo' hi' A B) (h1 : w.heap.size < lo') (h2 : lo' ≤ A.heap.size) : LedH w B w.heap.size s l vs := by
  have low := h.low.trans ((o.below h2).mono (Nat.le_of_lt h1))
  exact ⟨o.box h.box (.inl h1), hat.keep low, low⟩
end
set_option maxHeartbeats 8000000 in
set_option maxRecDepth 100000 in
theorem walk (s : Lists) (l : Led) (vs : List (Value × Acc)) (amount : Int) (w : World) (hat : LedAt w s l vs) (hok : LedOk w l vs s) (hb : LedBig l) (ia : FixpW.I64 amount) :
    Calls Tryd.prog 4 #[ledV s l, .int .i64 amount] w fun e w' => e = .returned (.bool true) ∧ Below w.heap.size w w' := by
  have X := ledH_new w s l vs hat
  have D0 := Lib.hid (fun W => lwakes_calls W)
  have DW := Lib.hid (fun W h => wide_calls s l vs W h hb (cash_big hok hat))
  have HF := Lib.hid (fun h => fit_of hok hat h)
  have HAt := Lib.hid hat
  clear hat hok hb
  unfold ledV at DW ⊢
  go_enter Tryd.func4, Tryd.ntmps4
  go_upto_region 1 with fail
  generalize w.alloc (.cells #[.int .i64 l.day, .slice s.a1 l.curs.length s.c1, .slice s.a2 l.unders.length s.c2, .slice s.a3 l.instrs.length s.c3, .slice s.a4 l.accts.length s.c4, .slice s.a5 l.poss.length s.c5, .slice s.a6 l.orders.length s.c6, .slice s.a7 l.avail.length s.c7, .slice s.a8 l.locs.length s.c8] 37) = w0 at *
  have XH := Lib.hid X
  clear X
  cases hw : wideF l with
  | true =>
    rw [hw] at DW
    clear hw HF
    go_wp2_with (first | (go_at_call 8; refine (D0.out _).mono ?_; rintro e w1 ⟨rfl, b1⟩; have X1 := Lib.hid (XH.out.keep b1); have k0 : w1.cell? ⟨w.heap.size, 0, none⟩ = some (.int .i64 l.day) := X1.out.box.cell 0; have k1 : w1.cell? ⟨w.heap.size, 1, none⟩ = some (.slice s.a1 l.curs.length s.c1) := X1.out.box.cell 1; have k2 : w1.cell? ⟨w.heap.size, 2, none⟩ = some (.slice s.a2 l.unders.length s.c2) := X1.out.box.cell 2; have k3 : w1.cell? ⟨w.heap.size, 3, none⟩ = some (.slice s.a3 l.instrs.length s.c3) := X1.out.box.cell 3; have k4 : w1.cell? ⟨w.heap.size, 4, none⟩ = some (.slice s.a4 l.accts.length s.c4) := X1.out.box.cell 4; have k5 : w1.cell? ⟨w.heap.size, 5, none⟩ = some (.slice s.a5 l.poss.length s.c5) := X1.out.box.cell 5; have k6 : w1.cell? ⟨w.heap.size, 6, none⟩ = some (.slice s.a6 l.orders.length s.c6) := X1.out.box.cell 6; have k7 : w1.cell? ⟨w.heap.size, 7, none⟩ = some (.slice s.a7 l.avail.length s.c7) := X1.out.box.cell 7; have k8 : w1.cell? ⟨w.heap.size, 8, none⟩ = some (.slice s.a8 l.locs.length s.c8) := X1.out.box.cell 8) | (go_at_call 10; refine (DW.out _ X1.out.at_).mono ?_; rintro e w2 ⟨rfl, b2⟩))
    go_ret
    exact ⟨rfl, X1.out.low.trans (b2.mono X1.out.low.size)⟩
  | false =>
  rw [hw] at DW
  have hf := HF.out hw
  have HFit := Lib.hid hf
  clear hw HF hf
  go_upto_region 5 with (first | (go_at_call 8; refine (D0.out _).mono ?_; rintro e w1 ⟨rfl, b1⟩; have X1 := Lib.hid (XH.out.keep b1); have k0 : w1.cell? ⟨w.heap.size, 0, none⟩ = some (.int .i64 l.day) := X1.out.box.cell 0; have k1 : w1.cell? ⟨w.heap.size, 1, none⟩ = some (.slice s.a1 l.curs.length s.c1) := X1.out.box.cell 1; have k2 : w1.cell? ⟨w.heap.size, 2, none⟩ = some (.slice s.a2 l.unders.length s.c2) := X1.out.box.cell 2; have k3 : w1.cell? ⟨w.heap.size, 3, none⟩ = some (.slice s.a3 l.instrs.length s.c3) := X1.out.box.cell 3; have k4 : w1.cell? ⟨w.heap.size, 4, none⟩ = some (.slice s.a4 l.accts.length s.c4) := X1.out.box.cell 4; have k5 : w1.cell? ⟨w.heap.size, 5, none⟩ = some (.slice s.a5 l.poss.length s.c5) := X1.out.box.cell 5; have k6 : w1.cell? ⟨w.heap.size, 6, none⟩ = some (.slice s.a6 l.orders.length s.c6) := X1.out.box.cell 6; have k7 : w1.cell? ⟨w.heap.size, 7, none⟩ = some (.slice s.a7 l.avail.length s.c7) := X1.out.box.cell 7; have k8 : w1.cell? ⟨w.heap.size, 8, none⟩ = some (.slice s.a8 l.locs.length s.c8) := X1.out.box.cell 8) | (go_at_call 10; refine (DW.out _ X1.out.at_).mono ?_; rintro e w2 ⟨rfl, b2⟩; have X2 := Lib.hid (X1.out.keep b2)))
  clear k0 k1 k2 k3 k4 k5 k6 k7 k8 XH X1 b1 b2 D0 DW
  have CM := Lib.hid (fun W h => rcopy_calls s l vs W h HFit.out)
  unfold ledV at CM
  have k0 : w2.cell? ⟨w.heap.size, 0, none⟩ = some (.int .i64 l.day) := X2.out.box.cell 0
  have k1 : w2.cell? ⟨w.heap.size, 1, none⟩ = some (.slice s.a1 l.curs.length s.c1) := X2.out.box.cell 1
  have k2 : w2.cell? ⟨w.heap.size, 2, none⟩ = some (.slice s.a2 l.unders.length s.c2) := X2.out.box.cell 2
  have k3 : w2.cell? ⟨w.heap.size, 3, none⟩ = some (.slice s.a3 l.instrs.length s.c3) := X2.out.box.cell 3
  have k4 : w2.cell? ⟨w.heap.size, 4, none⟩ = some (.slice s.a4 l.accts.length s.c4) := X2.out.box.cell 4
  have k5 : w2.cell? ⟨w.heap.size, 5, none⟩ = some (.slice s.a5 l.poss.length s.c5) := X2.out.box.cell 5
  have k6 : w2.cell? ⟨w.heap.size, 6, none⟩ = some (.slice s.a6 l.orders.length s.c6) := X2.out.box.cell 6
  have k7 : w2.cell? ⟨w.heap.size, 7, none⟩ = some (.slice s.a7 l.avail.length s.c7) := X2.out.box.cell 7
  have k8 : w2.cell? ⟨w.heap.size, 8, none⟩ = some (.slice s.a8 l.locs.length s.c8) := X2.out.box.cell 8
  go_upto_region 6 with (go_at_call 11; refine (CM.out _ X2.out.at_).mono ?_; rintro e w3 ⟨sm, um, rfl, ownm, b3⟩)
  have z2 : w.heap.size < w2.heap.size := X2.out.box.lt
  have z3 := b3.size
  have IM := Lib.hid (It.new ownm)
  have XA := Lib.hid ((X2.out.keep b3).alloc (.cells #[.int .i64 l.day, .slice sm.a1 l.curs.length sm.c1, .slice sm.a2 l.unders.length sm.c2, .slice sm.a3 l.instrs.length sm.c3, .slice sm.a4 l.accts.length sm.c4, .slice sm.a5 l.poss.length sm.c5, .slice sm.a6 l.orders.length sm.c6, .slice sm.a7 l.avail.length sm.c7, .slice sm.a8 l.locs.length sm.c8] 37))
  have zA : (w3.alloc (.cells #[.int .i64 l.day, .slice sm.a1 l.curs.length sm.c1, .slice sm.a2 l.unders.length sm.c2, .slice sm.a3 l.instrs.length sm.c3, .slice sm.a4 l.accts.length sm.c4, .slice sm.a5 l.poss.length sm.c5, .slice sm.a6 l.orders.length sm.c6, .slice sm.a7 l.avail.length sm.c7, .slice sm.a8 l.locs.length sm.c8] 37)).heap.size = w3.heap.size + 1 := World.size_alloc _ _
  clear k0 k1 k2 k3 k4 k5 k6 k7 k8 X2 b3 ownm CM
  have CC := Lib.hid (fun W h => copy_calls sm l um W h HFit.out)
  have CP := Lib.hid (fun W h => pay_calls sm l um 0 amount 0 1 W h HFit.out ia)
  unfold ledV at CC CP
  change Code.wp _ _ _ _ (w3.alloc (.cells #[.int .i64 l.day, .slice sm.a1 l.curs.length sm.c1, .slice sm.a2 l.unders.length sm.c2, .slice sm.a3 l.instrs.length sm.c3, .slice sm.a4 l.accts.length sm.c4, .slice sm.a5 l.poss.length sm.c5, .slice sm.a6 l.orders.length sm.c6, .slice sm.a7 l.avail.length sm.c7, .slice sm.a8 l.locs.length sm.c8] 37))
  generalize w3.alloc (.cells #[.int .i64 l.day, .slice sm.a1 l.curs.length sm.c1, .slice sm.a2 l.unders.length sm.c2, .slice sm.a3 l.instrs.length sm.c3, .slice sm.a4 l.accts.length sm.c4, .slice sm.a5 l.poss.length sm.c5, .slice sm.a6 l.orders.length sm.c6, .slice sm.a7 l.avail.length sm.c7, .slice sm.a8 l.locs.length sm.c8] 37) = wA at *
  generalize w3.heap.size = gm at *
  have k0 : wA.cell? ⟨gm, 0, none⟩ = some (.int .i64 l.day) := IM.out.box.cell 0
  have k1 : wA.cell? ⟨gm, 1, none⟩ = some (.slice sm.a1 l.curs.length sm.c1) := IM.out.box.cell 1
  have k2 : wA.cell? ⟨gm, 2, none⟩ = some (.slice sm.a2 l.unders.length sm.c2) := IM.out.box.cell 2
  have k3 : wA.cell? ⟨gm, 3, none⟩ = some (.slice sm.a3 l.instrs.length sm.c3) := IM.out.box.cell 3
  have k4 : wA.cell? ⟨gm, 4, none⟩ = some (.slice sm.a4 l.accts.length sm.c4) := IM.out.box.cell 4
  have k5 : wA.cell? ⟨gm, 5, none⟩ = some (.slice sm.a5 l.poss.length sm.c5) := IM.out.box.cell 5
  have k6 : wA.cell? ⟨gm, 6, none⟩ = some (.slice sm.a6 l.orders.length sm.c6) := IM.out.box.cell 6
  have k7 : wA.cell? ⟨gm, 7, none⟩ = some (.slice sm.a7 l.avail.length sm.c7) := IM.out.box.cell 7
  have k8 : wA.cell? ⟨gm, 8, none⟩ = some (.slice sm.a8 l.locs.length sm.c8) := IM.out.box.cell 8
  go_upto_region 7 with (go_at_call 12; refine (CC.out _ IM.out.own.at_).mono ?_; rintro e w4 ⟨sc, uc, rfl, ownc, b4⟩)
  have z4 := b4.size
  have bB := b4.trans ((Below.refl _ _).alloc z4 (.cells #[.int .i64 l.day, .slice sc.a1 l.curs.length sc.c1, .slice sc.a2 l.unders.length sc.c2, .slice sc.a3 l.instrs.length sc.c3, .slice sc.a4 l.accts.length sc.c4, .slice sc.a5 l.poss.length sc.c5, .slice sc.a6 l.orders.length sc.c6, .slice sc.a7 l.avail.length sc.c7, .slice sc.a8 l.locs.length sc.c8] 37))
  have IMB := Lib.hid (IM.out.keep bB)
  have ICB := Lib.hid (It.new ownc)
  have XB := Lib.hid (XA.out.keep bB)
  have zB : (w4.alloc (.cells #[.int .i64 l.day, .slice sc.a1 l.curs.length sc.c1, .slice sc.a2 l.unders.length sc.c2, .slice sc.a3 l.instrs.length sc.c3, .slice sc.a4 l.accts.length sc.c4, .slice sc.a5 l.poss.length sc.c5, .slice sc.a6 l.orders.length sc.c6, .slice sc.a7 l.avail.length sc.c7, .slice sc.a8 l.locs.length sc.c8] 37)).heap.size = w4.heap.size + 1 := World.size_alloc _ _
  clear k0 k1 k2 k3 k4 k5 k6 k7 k8 b4 bB ownc IM XA
  change Code.wp _ _ _ _ (w4.alloc (.cells #[.int .i64 l.day, .slice sc.a1 l.curs.length sc.c1, .slice sc.a2 l.unders.length sc.c2, .slice sc.a3 l.instrs.length sc.c3, .slice sc.a4 l.accts.length sc.c4, .slice sc.a5 l.poss.length sc.c5, .slice sc.a6 l.orders.length sc.c6, .slice sc.a7 l.avail.length sc.c7, .slice sc.a8 l.locs.length sc.c8] 37))
  generalize w4.alloc (.cells #[.int .i64 l.day, .slice sc.a1 l.curs.length sc.c1, .slice sc.a2 l.unders.length sc.c2, .slice sc.a3 l.instrs.length sc.c3, .slice sc.a4 l.accts.length sc.c4, .slice sc.a5 l.poss.length sc.c5, .slice sc.a6 l.orders.length sc.c6, .slice sc.a7 l.avail.length sc.c7, .slice sc.a8 l.locs.length sc.c8] 37) = wB at *
  generalize w4.heap.size = gc at *
  have k0 : wB.cell? ⟨gm, 0, none⟩ = some (.int .i64 l.day) := IMB.out.box.cell 0
  have k1 : wB.cell? ⟨gm, 1, none⟩ = some (.slice sm.a1 l.curs.length sm.c1) := IMB.out.box.cell 1
  have k2 : wB.cell? ⟨gm, 2, none⟩ = some (.slice sm.a2 l.unders.length sm.c2) := IMB.out.box.cell 2
  have k3 : wB.cell? ⟨gm, 3, none⟩ = some (.slice sm.a3 l.instrs.length sm.c3) := IMB.out.box.cell 3
  have k4 : wB.cell? ⟨gm, 4, none⟩ = some (.slice sm.a4 l.accts.length sm.c4) := IMB.out.box.cell 4
  have k5 : wB.cell? ⟨gm, 5, none⟩ = some (.slice sm.a5 l.poss.length sm.c5) := IMB.out.box.cell 5
  have k6 : wB.cell? ⟨gm, 6, none⟩ = some (.slice sm.a6 l.orders.length sm.c6) := IMB.out.box.cell 6
  have k7 : wB.cell? ⟨gm, 7, none⟩ = some (.slice sm.a7 l.avail.length sm.c7) := IMB.out.box.cell 7
  have k8 : wB.cell? ⟨gm, 8, none⟩ = some (.slice sm.a8 l.locs.length sm.c8) := IMB.out.box.cell 8
  go_upto_region 8 with (go_at_call 12; refine (CC.out _ IMB.out.own.at_).mono ?_; rintro e w5 ⟨sd, ud, rfl, ownd, b5⟩)
  have z5 := b5.size
  have bC := b5.trans ((Below.refl _ _).alloc z5 (.cells #[.int .i64 l.day, .slice sd.a1 l.curs.length sd.c1, .slice sd.a2 l.unders.length sd.c2, .slice sd.a3 l.instrs.length sd.c3, .slice sd.a4 l.accts.length sd.c4, .slice sd.a5 l.poss.length sd.c5, .slice sd.a6 l.orders.length sd.c6, .slice sd.a7 l.avail.length sd.c7, .slice sd.a8 l.locs.length sd.c8] 37))
  have IMC := Lib.hid (IMB.out.keep bC)
  have ICC := Lib.hid (ICB.out.keep bC)
  have IDC := Lib.hid (It.new ownd)
  have XC := Lib.hid (XB.out.keep bC)
  have zC : (w5.alloc (.cells #[.int .i64 l.day, .slice sd.a1 l.curs.length sd.c1, .slice sd.a2 l.unders.length sd.c2, .slice sd.a3 l.instrs.length sd.c3, .slice sd.a4 l.accts.length sd.c4, .slice sd.a5 l.poss.length sd.c5, .slice sd.a6 l.orders.length sd.c6, .slice sd.a7 l.avail.length sd.c7, .slice sd.a8 l.locs.length sd.c8] 37)).heap.size = w5.heap.size + 1 := World.size_alloc _ _
  clear k0 k1 k2 k3 k4 k5 k6 k7 k8 b5 bC ownd IMB ICB XB CC
  change Code.wp _ _ _ _ (w5.alloc (.cells #[.int .i64 l.day, .slice sd.a1 l.curs.length sd.c1, .slice sd.a2 l.unders.length sd.c2, .slice sd.a3 l.instrs.length sd.c3, .slice sd.a4 l.accts.length sd.c4, .slice sd.a5 l.poss.length sd.c5, .slice sd.a6 l.orders.length sd.c6, .slice sd.a7 l.avail.length sd.c7, .slice sd.a8 l.locs.length sd.c8] 37))
  generalize w5.alloc (.cells #[.int .i64 l.day, .slice sd.a1 l.curs.length sd.c1, .slice sd.a2 l.unders.length sd.c2, .slice sd.a3 l.instrs.length sd.c3, .slice sd.a4 l.accts.length sd.c4, .slice sd.a5 l.poss.length sd.c5, .slice sd.a6 l.orders.length sd.c6, .slice sd.a7 l.avail.length sd.c7, .slice sd.a8 l.locs.length sd.c8] 37) = wC at *
  generalize w5.heap.size = gd at *
  have k0 : wC.cell? ⟨gm, 0, none⟩ = some (.int .i64 l.day) := IMC.out.box.cell 0
  have k1 : wC.cell? ⟨gm, 1, none⟩ = some (.slice sm.a1 l.curs.length sm.c1) := IMC.out.box.cell 1
  have k2 : wC.cell? ⟨gm, 2, none⟩ = some (.slice sm.a2 l.unders.length sm.c2) := IMC.out.box.cell 2
  have k3 : wC.cell? ⟨gm, 3, none⟩ = some (.slice sm.a3 l.instrs.length sm.c3) := IMC.out.box.cell 3
  have k4 : wC.cell? ⟨gm, 4, none⟩ = some (.slice sm.a4 l.accts.length sm.c4) := IMC.out.box.cell 4
  have k5 : wC.cell? ⟨gm, 5, none⟩ = some (.slice sm.a5 l.poss.length sm.c5) := IMC.out.box.cell 5
  have k6 : wC.cell? ⟨gm, 6, none⟩ = some (.slice sm.a6 l.orders.length sm.c6) := IMC.out.box.cell 6
  have k7 : wC.cell? ⟨gm, 7, none⟩ = some (.slice sm.a7 l.avail.length sm.c7) := IMC.out.box.cell 7
  have k8 : wC.cell? ⟨gm, 8, none⟩ = some (.slice sm.a8 l.locs.length sm.c8) := IMC.out.box.cell 8
  go_upto_region 9 with (go_at_call 13; refine (CP.out _ IMC.out.own.at_).mono ?_; rintro e w6 ⟨sp, lp, up, er, rfl, hp, ownp, b6⟩)
  have z6 := b6.size
  have bD := b6.trans ((Below.refl _ _).alloc z6 (.cells #[.int .i64 lp.day, .slice sp.a1 lp.curs.length sp.c1, .slice sp.a2 lp.unders.length sp.c2, .slice sp.a3 lp.instrs.length sp.c3, .slice sp.a4 lp.accts.length sp.c4, .slice sp.a5 lp.poss.length sp.c5, .slice sp.a6 lp.orders.length sp.c6, .slice sp.a7 lp.avail.length sp.c7, .slice sp.a8 lp.locs.length sp.c8] 37))
  have IMD := Lib.hid (IMC.out.keep bD)
  have ICD := Lib.hid (ICC.out.keep bD)
  have IDD := Lib.hid (IDC.out.keep bD)
  have IPD := Lib.hid (It.new ownp)
  have XD := Lib.hid (XC.out.keep bD)
  have hfp := pay_fit HFit.out hp
  have HPF := Lib.hid hp
  have zD : (w6.alloc (.cells #[.int .i64 lp.day, .slice sp.a1 lp.curs.length sp.c1, .slice sp.a2 lp.unders.length sp.c2, .slice sp.a3 lp.instrs.length sp.c3, .slice sp.a4 lp.accts.length sp.c4, .slice sp.a5 lp.poss.length sp.c5, .slice sp.a6 lp.orders.length sp.c6, .slice sp.a7 lp.avail.length sp.c7, .slice sp.a8 lp.locs.length sp.c8] 37)).heap.size = w6.heap.size + 1 := World.size_alloc _ _
  clear k0 k1 k2 k3 k4 k5 k6 k7 k8 b6 bD ownp IMC ICC IDC XC hp
  change Code.wp _ _ _ _ (w6.alloc (.cells #[.int .i64 lp.day, .slice sp.a1 lp.curs.length sp.c1, .slice sp.a2 lp.unders.length sp.c2, .slice sp.a3 lp.instrs.length sp.c3, .slice sp.a4 lp.accts.length sp.c4, .slice sp.a5 lp.poss.length sp.c5, .slice sp.a6 lp.orders.length sp.c6, .slice sp.a7 lp.avail.length sp.c7, .slice sp.a8 lp.locs.length sp.c8] 37))
  generalize w6.alloc (.cells #[.int .i64 lp.day, .slice sp.a1 lp.curs.length sp.c1, .slice sp.a2 lp.unders.length sp.c2, .slice sp.a3 lp.instrs.length sp.c3, .slice sp.a4 lp.accts.length sp.c4, .slice sp.a5 lp.poss.length sp.c5, .slice sp.a6 lp.orders.length sp.c6, .slice sp.a7 lp.avail.length sp.c7, .slice sp.a8 lp.locs.length sp.c8] 37) = wD at *
  generalize w6.heap.size = gp at *
  have k0 : wD.cell? ⟨gm, 0, none⟩ = some (.int .i64 l.day) := IMD.out.box.cell 0
  have k1 : wD.cell? ⟨gm, 1, none⟩ = some (.slice sm.a1 l.curs.length sm.c1) := IMD.out.box.cell 1
  have k2 : wD.cell? ⟨gm, 2, none⟩ = some (.slice sm.a2 l.unders.length sm.c2) := IMD.out.box.cell 2
  have k3 : wD.cell? ⟨gm, 3, none⟩ = some (.slice sm.a3 l.instrs.length sm.c3) := IMD.out.box.cell 3
  have k4 : wD.cell? ⟨gm, 4, none⟩ = some (.slice sm.a4 l.accts.length sm.c4) := IMD.out.box.cell 4
  have k5 : wD.cell? ⟨gm, 5, none⟩ = some (.slice sm.a5 l.poss.length sm.c5) := IMD.out.box.cell 5
  have k6 : wD.cell? ⟨gm, 6, none⟩ = some (.slice sm.a6 l.orders.length sm.c6) := IMD.out.box.cell 6
  have k7 : wD.cell? ⟨gm, 7, none⟩ = some (.slice sm.a7 l.avail.length sm.c7) := IMD.out.box.cell 7
  have k8 : wD.cell? ⟨gm, 8, none⟩ = some (.slice sm.a8 l.locs.length sm.c8) := IMD.out.box.cell 8
  go_upto_region 10 with (go_at_call 13; refine (CP.out _ IMD.out.own.at_).mono ?_; rintro e w7 ⟨sq, lq, uq, er2, rfl, hq, ownq, b7⟩; rw [HPF.out] at hq; cases hq)
  have z7 := b7.size
  have bE := b7.trans ((Below.refl _ _).alloc z7 (.cells #[.int .i64 lp.day, .slice sq.a1 lp.curs.length sq.c1, .slice sq.a2 lp.unders.length sq.c2, .slice sq.a3 lp.instrs.length sq.c3, .slice sq.a4 lp.accts.length sq.c4, .slice sq.a5 lp.poss.length sq.c5, .slice sq.a6 lp.orders.length sq.c6, .slice sq.a7 lp.avail.length sq.c7, .slice sq.a8 lp.locs.length sq.c8] 37))
  have IME := Lib.hid (IMD.out.keep bE)
  have ICE := Lib.hid (ICD.out.keep bE)
  have IDE := Lib.hid (IDD.out.keep bE)
  have IPE := Lib.hid (IPD.out.keep bE)
  have IQE := Lib.hid (It.new ownq)
  have XE := Lib.hid (XD.out.keep bE)
  have zE : (w7.alloc (.cells #[.int .i64 lp.day, .slice sq.a1 lp.curs.length sq.c1, .slice sq.a2 lp.unders.length sq.c2, .slice sq.a3 lp.instrs.length sq.c3, .slice sq.a4 lp.accts.length sq.c4, .slice sq.a5 lp.poss.length sq.c5, .slice sq.a6 lp.orders.length sq.c6, .slice sq.a7 lp.avail.length sq.c7, .slice sq.a8 lp.locs.length sq.c8] 37)).heap.size = w7.heap.size + 1 := World.size_alloc _ _
  clear k0 k1 k2 k3 k4 k5 k6 k7 k8 b7 bE ownq IMD ICD IDD IPD XD CP
  change Code.wp _ _ _ _ (w7.alloc (.cells #[.int .i64 lp.day, .slice sq.a1 lp.curs.length sq.c1, .slice sq.a2 lp.unders.length sq.c2, .slice sq.a3 lp.instrs.length sq.c3, .slice sq.a4 lp.accts.length sq.c4, .slice sq.a5 lp.poss.length sq.c5, .slice sq.a6 lp.orders.length sq.c6, .slice sq.a7 lp.avail.length sq.c7, .slice sq.a8 lp.locs.length sq.c8] 37))
  generalize w7.alloc (.cells #[.int .i64 lp.day, .slice sq.a1 lp.curs.length sq.c1, .slice sq.a2 lp.unders.length sq.c2, .slice sq.a3 lp.instrs.length sq.c3, .slice sq.a4 lp.accts.length sq.c4, .slice sq.a5 lp.poss.length sq.c5, .slice sq.a6 lp.orders.length sq.c6, .slice sq.a7 lp.avail.length sq.c7, .slice sq.a8 lp.locs.length sq.c8] 37) = wE at *
  generalize w7.heap.size = gq at *
  have SM := Lib.hid (fun W h h2 => rsame_calls sm l um s l vs W h h2 HFit.out HFit.out)
  have SC := Lib.hid (fun W h h2 => rsame_calls sc l uc s l vs W h h2 HFit.out HFit.out)
  have SD := Lib.hid (fun W h h2 => rsame_calls sd l ud s l vs W h h2 HFit.out HFit.out)
  have SPQ := Lib.hid (fun W h h2 => rsame_calls sp lp up sq lp uq W h h2 hfp hfp)
  simp only [decide_true] at SM SC SD SPQ
  unfold ledV at SM SC SD SPQ
  have k0 : wE.cell? ⟨gm, 0, none⟩ = some (.int .i64 l.day) := IME.out.box.cell 0
  have k1 : wE.cell? ⟨gm, 1, none⟩ = some (.slice sm.a1 l.curs.length sm.c1) := IME.out.box.cell 1
  have k2 : wE.cell? ⟨gm, 2, none⟩ = some (.slice sm.a2 l.unders.length sm.c2) := IME.out.box.cell 2
  have k3 : wE.cell? ⟨gm, 3, none⟩ = some (.slice sm.a3 l.instrs.length sm.c3) := IME.out.box.cell 3
  have k4 : wE.cell? ⟨gm, 4, none⟩ = some (.slice sm.a4 l.accts.length sm.c4) := IME.out.box.cell 4
  have k5 : wE.cell? ⟨gm, 5, none⟩ = some (.slice sm.a5 l.poss.length sm.c5) := IME.out.box.cell 5
  have k6 : wE.cell? ⟨gm, 6, none⟩ = some (.slice sm.a6 l.orders.length sm.c6) := IME.out.box.cell 6
  have k7 : wE.cell? ⟨gm, 7, none⟩ = some (.slice sm.a7 l.avail.length sm.c7) := IME.out.box.cell 7
  have k8 : wE.cell? ⟨gm, 8, none⟩ = some (.slice sm.a8 l.locs.length sm.c8) := IME.out.box.cell 8
  have j0 : wE.cell? ⟨w.heap.size, 0, none⟩ = some (.int .i64 l.day) := XE.out.box.cell 0
  have j1 : wE.cell? ⟨w.heap.size, 1, none⟩ = some (.slice s.a1 l.curs.length s.c1) := XE.out.box.cell 1
  have j2 : wE.cell? ⟨w.heap.size, 2, none⟩ = some (.slice s.a2 l.unders.length s.c2) := XE.out.box.cell 2
  have j3 : wE.cell? ⟨w.heap.size, 3, none⟩ = some (.slice s.a3 l.instrs.length s.c3) := XE.out.box.cell 3
  have j4 : wE.cell? ⟨w.heap.size, 4, none⟩ = some (.slice s.a4 l.accts.length s.c4) := XE.out.box.cell 4
  have j5 : wE.cell? ⟨w.heap.size, 5, none⟩ = some (.slice s.a5 l.poss.length s.c5) := XE.out.box.cell 5
  have j6 : wE.cell? ⟨w.heap.size, 6, none⟩ = some (.slice s.a6 l.orders.length s.c6) := XE.out.box.cell 6
  have j7 : wE.cell? ⟨w.heap.size, 7, none⟩ = some (.slice s.a7 l.avail.length s.c7) := XE.out.box.cell 7
  have j8 : wE.cell? ⟨w.heap.size, 8, none⟩ = some (.slice s.a8 l.locs.length s.c8) := XE.out.box.cell 8
  go_upto_region 12 with (first
    | (go_at_call 14; refine (SPQ.out _ IPG.out.own.at_ IQG.out.own.at_).mono ?_; rintro e wH ⟨rfl, bH⟩; have IMH := Lib.hid (IMG.out.keep bH); have ICH := Lib.hid (ICG.out.keep bH); have IDH := Lib.hid (IDG.out.keep bH); have IPH := Lib.hid (IPG.out.keep bH); have IQH := Lib.hid (IQG.out.keep bH); have XH := Lib.hid (XG.out.keep bH); clear k0 k1 k2 k3 k4 k5 k6 k7 k8 j0 j1 j2 j3 j4 j5 j6 j7 j8; have k0 : wH.cell? ⟨gc, 0, none⟩ = some (.int .i64 l.day) := ICH.out.box.cell 0; have k1 : wH.cell? ⟨gc, 1, none⟩ = some (.slice sc.a1 l.curs.length sc.c1) := ICH.out.box.cell 1; have k2 : wH.cell? ⟨gc, 2, none⟩ = some (.slice sc.a2 l.unders.length sc.c2) := ICH.out.box.cell 2; have k3 : wH.cell? ⟨gc, 3, none⟩ = some (.slice sc.a3 l.instrs.length sc.c3) := ICH.out.box.cell 3; have k4 : wH.cell? ⟨gc, 4, none⟩ = some (.slice sc.a4 l.accts.length sc.c4) := ICH.out.box.cell 4; have k5 : wH.cell? ⟨gc, 5, none⟩ = some (.slice sc.a5 l.poss.length sc.c5) := ICH.out.box.cell 5; have k6 : wH.cell? ⟨gc, 6, none⟩ = some (.slice sc.a6 l.orders.length sc.c6) := ICH.out.box.cell 6; have k7 : wH.cell? ⟨gc, 7, none⟩ = some (.slice sc.a7 l.avail.length sc.c7) := ICH.out.box.cell 7; have k8 : wH.cell? ⟨gc, 8, none⟩ = some (.slice sc.a8 l.locs.length sc.c8) := ICH.out.box.cell 8)
    | (go_at_call 14; refine (SC.out _ ICF.out.own.at_ XF.out.at_).mono ?_; rintro e wG ⟨rfl, bG⟩; have IMG := Lib.hid (IMF.out.keep bG); have ICG := Lib.hid (ICF.out.keep bG); have IDG := Lib.hid (IDF.out.keep bG); have IPG := Lib.hid (IPF.out.keep bG); have IQG := Lib.hid (IQF.out.keep bG); have XG := Lib.hid (XF.out.keep bG); clear k0 k1 k2 k3 k4 k5 k6 k7 k8 j0 j1 j2 j3 j4 j5 j6 j7 j8; have k0 : wG.cell? ⟨gp, 0, none⟩ = some (.int .i64 lp.day) := IPG.out.box.cell 0; have k1 : wG.cell? ⟨gp, 1, none⟩ = some (.slice sp.a1 lp.curs.length sp.c1) := IPG.out.box.cell 1; have k2 : wG.cell? ⟨gp, 2, none⟩ = some (.slice sp.a2 lp.unders.length sp.c2) := IPG.out.box.cell 2; have k3 : wG.cell? ⟨gp, 3, none⟩ = some (.slice sp.a3 lp.instrs.length sp.c3) := IPG.out.box.cell 3; have k4 : wG.cell? ⟨gp, 4, none⟩ = some (.slice sp.a4 lp.accts.length sp.c4) := IPG.out.box.cell 4; have k5 : wG.cell? ⟨gp, 5, none⟩ = some (.slice sp.a5 lp.poss.length sp.c5) := IPG.out.box.cell 5; have k6 : wG.cell? ⟨gp, 6, none⟩ = some (.slice sp.a6 lp.orders.length sp.c6) := IPG.out.box.cell 6; have k7 : wG.cell? ⟨gp, 7, none⟩ = some (.slice sp.a7 lp.avail.length sp.c7) := IPG.out.box.cell 7; have k8 : wG.cell? ⟨gp, 8, none⟩ = some (.slice sp.a8 lp.locs.length sp.c8) := IPG.out.box.cell 8; have j0 : wG.cell? ⟨gq, 0, none⟩ = some (.int .i64 lp.day) := IQG.out.box.cell 0; have j1 : wG.cell? ⟨gq, 1, none⟩ = some (.slice sq.a1 lp.curs.length sq.c1) := IQG.out.box.cell 1; have j2 : wG.cell? ⟨gq, 2, none⟩ = some (.slice sq.a2 lp.unders.length sq.c2) := IQG.out.box.cell 2; have j3 : wG.cell? ⟨gq, 3, none⟩ = some (.slice sq.a3 lp.instrs.length sq.c3) := IQG.out.box.cell 3; have j4 : wG.cell? ⟨gq, 4, none⟩ = some (.slice sq.a4 lp.accts.length sq.c4) := IQG.out.box.cell 4; have j5 : wG.cell? ⟨gq, 5, none⟩ = some (.slice sq.a5 lp.poss.length sq.c5) := IQG.out.box.cell 5; have j6 : wG.cell? ⟨gq, 6, none⟩ = some (.slice sq.a6 lp.orders.length sq.c6) := IQG.out.box.cell 6; have j7 : wG.cell? ⟨gq, 7, none⟩ = some (.slice sq.a7 lp.avail.length sq.c7) := IQG.out.box.cell 7; have j8 : wG.cell? ⟨gq, 8, none⟩ = some (.slice sq.a8 lp.locs.length sq.c8) := IQG.out.box.cell 8)
    | (go_at_call 14; refine (SM.out _ IME.out.own.at_ XE.out.at_).mono ?_; rintro e wF ⟨rfl, bF⟩; have IMF := Lib.hid (IME.out.keep bF); have ICF := Lib.hid (ICE.out.keep bF); have IDF := Lib.hid (IDE.out.keep bF); have IPF := Lib.hid (IPE.out.keep bF); have IQF := Lib.hid (IQE.out.keep bF); have XF := Lib.hid (XE.out.keep bF); clear k0 k1 k2 k3 k4 k5 k6 k7 k8 j0 j1 j2 j3 j4 j5 j6 j7 j8; have k0 : wF.cell? ⟨gc, 0, none⟩ = some (.int .i64 l.day) := ICF.out.box.cell 0; have k1 : wF.cell? ⟨gc, 1, none⟩ = some (.slice sc.a1 l.curs.length sc.c1) := ICF.out.box.cell 1; have k2 : wF.cell? ⟨gc, 2, none⟩ = some (.slice sc.a2 l.unders.length sc.c2) := ICF.out.box.cell 2; have k3 : wF.cell? ⟨gc, 3, none⟩ = some (.slice sc.a3 l.instrs.length sc.c3) := ICF.out.box.cell 3; have k4 : wF.cell? ⟨gc, 4, none⟩ = some (.slice sc.a4 l.accts.length sc.c4) := ICF.out.box.cell 4; have k5 : wF.cell? ⟨gc, 5, none⟩ = some (.slice sc.a5 l.poss.length sc.c5) := ICF.out.box.cell 5; have k6 : wF.cell? ⟨gc, 6, none⟩ = some (.slice sc.a6 l.orders.length sc.c6) := ICF.out.box.cell 6; have k7 : wF.cell? ⟨gc, 7, none⟩ = some (.slice sc.a7 l.avail.length sc.c7) := ICF.out.box.cell 7; have k8 : wF.cell? ⟨gc, 8, none⟩ = some (.slice sc.a8 l.locs.length sc.c8) := ICF.out.box.cell 8; have j0 : wF.cell? ⟨w.heap.size, 0, none⟩ = some (.int .i64 l.day) := XF.out.box.cell 0; have j1 : wF.cell? ⟨w.heap.size, 1, none⟩ = some (.slice s.a1 l.curs.length s.c1) := XF.out.box.cell 1; have j2 : wF.cell? ⟨w.heap.size, 2, none⟩ = some (.slice s.a2 l.unders.length s.c2) := XF.out.box.cell 2; have j3 : wF.cell? ⟨w.heap.size, 3, none⟩ = some (.slice s.a3 l.instrs.length s.c3) := XF.out.box.cell 3; have j4 : wF.cell? ⟨w.heap.size, 4, none⟩ = some (.slice s.a4 l.accts.length s.c4) := XF.out.box.cell 4; have j5 : wF.cell? ⟨w.heap.size, 5, none⟩ = some (.slice s.a5 l.poss.length s.c5) := XF.out.box.cell 5; have j6 : wF.cell? ⟨w.heap.size, 6, none⟩ = some (.slice s.a6 l.orders.length s.c6) := XF.out.box.cell 6; have j7 : wF.cell? ⟨w.heap.size, 7, none⟩ = some (.slice s.a7 l.avail.length s.c7) := XF.out.box.cell 7; have j8 : wF.cell? ⟨w.heap.size, 8, none⟩ = some (.slice s.a8 l.locs.length s.c8) := XF.out.box.cell 8))
  have zF := bF.size
  have zG := bG.size
  have zH := bH.size
  clear bF bG bH IME ICE IDE IPE IQE XE IMF ICF IDF IPF IQF XF IMG ICG IDG IPG IQG XG SC SPQ
  have hcb : gc ≤ wH.heap.size := by omega
  have SPC := Lib.hid (spoil_calls wA.heap.size gc sc l uc wH ICH.out.own ICH.out.top hcb HFit.out)
  unfold ledV at SPC
  go_upto_region 13 with (go_at_call 15; refine SPC.out.mono ?_; rintro e wI ⟨rfl, oI⟩)
  have zI := oI.size
  have IMI := Lib.hid (IMH.out.under oI (by omega) (by omega))
  have IDI := Lib.hid (IDH.out.above oI (by omega) (by omega))
  have IPI := Lib.hid (IPH.out.above oI (by omega) (by omega))
  have IQI := Lib.hid (IQH.out.above oI (by omega) (by omega))
  have XI := Lib.hid (ledH_only XH.out HAt.out oI (by omega) (by omega))
  clear k0 k1 k2 k3 k4 k5 k6 k7 k8 oI SPC IMH ICH IDH IPH IQH XH
  have hpb : gp ≤ wI.heap.size := by omega
  have SPP := Lib.hid (spoil_calls wC.heap.size gp sp lp up wI IPI.out.own IPI.out.top hpb hfp)
  unfold ledV at SPP
  have k0 : wI.cell? ⟨gp, 0, none⟩ = some (.int .i64 lp.day) := IPI.out.box.cell 0
  have k1 : wI.cell? ⟨gp, 1, none⟩ = some (.slice sp.a1 lp.curs.length sp.c1) := IPI.out.box.cell 1
  have k2 : wI.cell? ⟨gp, 2, none⟩ = some (.slice sp.a2 lp.unders.length sp.c2) := IPI.out.box.cell 2
  have k3 : wI.cell? ⟨gp, 3, none⟩ = some (.slice sp.a3 lp.instrs.length sp.c3) := IPI.out.box.cell 3
  have k4 : wI.cell? ⟨gp, 4, none⟩ = some (.slice sp.a4 lp.accts.length sp.c4) := IPI.out.box.cell 4
  have k5 : wI.cell? ⟨gp, 5, none⟩ = some (.slice sp.a5 lp.poss.length sp.c5) := IPI.out.box.cell 5
  have k6 : wI.cell? ⟨gp, 6, none⟩ = some (.slice sp.a6 lp.orders.length sp.c6) := IPI.out.box.cell 6
  have k7 : wI.cell? ⟨gp, 7, none⟩ = some (.slice sp.a7 lp.avail.length sp.c7) := IPI.out.box.cell 7
  have k8 : wI.cell? ⟨gp, 8, none⟩ = some (.slice sp.a8 lp.locs.length sp.c8) := IPI.out.box.cell 8
  go_upto_region 14 with (go_at_call 15; refine SPP.out.mono ?_; rintro e wJ ⟨rfl, oJ⟩)
  have zJ := oJ.size
  have IMJ := Lib.hid (IMI.out.under oJ (by omega) (by omega))
  have IDJ := Lib.hid (IDI.out.under oJ (by omega) (by omega))
  have IQJ := Lib.hid (IQI.out.above oJ (by omega) (by omega))
  have XJ := Lib.hid (ledH_only XI.out HAt.out oJ (by omega) (by omega))
  clear k0 k1 k2 k3 k4 k5 k6 k7 k8 oJ SPP IMI IDI IPI IQI XI
  have CW := Lib.hid (fun W h => rpay_calls s l vs 0 amount 0 1 W h HFit.out)
  unfold ledV at CW
  have k0 : wJ.cell? ⟨w.heap.size, 0, none⟩ = some (.int .i64 l.day) := XJ.out.box.cell 0
  have k1 : wJ.cell? ⟨w.heap.size, 1, none⟩ = some (.slice s.a1 l.curs.length s.c1) := XJ.out.box.cell 1
  have k2 : wJ.cell? ⟨w.heap.size, 2, none⟩ = some (.slice s.a2 l.unders.length s.c2) := XJ.out.box.cell 2
  have k3 : wJ.cell? ⟨w.heap.size, 3, none⟩ = some (.slice s.a3 l.instrs.length s.c3) := XJ.out.box.cell 3
  have k4 : wJ.cell? ⟨w.heap.size, 4, none⟩ = some (.slice s.a4 l.accts.length s.c4) := XJ.out.box.cell 4
  have k5 : wJ.cell? ⟨w.heap.size, 5, none⟩ = some (.slice s.a5 l.poss.length s.c5) := XJ.out.box.cell 5
  have k6 : wJ.cell? ⟨w.heap.size, 6, none⟩ = some (.slice s.a6 l.orders.length s.c6) := XJ.out.box.cell 6
  have k7 : wJ.cell? ⟨w.heap.size, 7, none⟩ = some (.slice s.a7 l.avail.length s.c7) := XJ.out.box.cell 7
  have k8 : wJ.cell? ⟨w.heap.size, 8, none⟩ = some (.slice s.a8 l.locs.length s.c8) := XJ.out.box.cell 8
  go_upto_region 15 with (go_at_call 16; refine (CW.out _ XJ.out.at_).mono ?_; rintro e wK ⟨sw, lw, uw, er3, rfl, hw3, ownw, bK⟩; rw [HPF.out] at hw3; cases hw3)
  have zK := bK.size
  have bL := bK.trans ((Below.refl _ _).alloc zK (.cells #[.int .i64 lp.day, .slice sw.a1 lp.curs.length sw.c1, .slice sw.a2 lp.unders.length sw.c2, .slice sw.a3 lp.instrs.length sw.c3, .slice sw.a4 lp.accts.length sw.c4, .slice sw.a5 lp.poss.length sw.c5, .slice sw.a6 lp.orders.length sw.c6, .slice sw.a7 lp.avail.length sw.c7, .slice sw.a8 lp.locs.length sw.c8] 37))
  have IML := Lib.hid (IMJ.out.keep bL)
  have IDL := Lib.hid (IDJ.out.keep bL)
  have IQL := Lib.hid (IQJ.out.keep bL)
  have IWL := Lib.hid (It.new ownw)
  have XL := Lib.hid (XJ.out.keep bL)
  clear k0 k1 k2 k3 k4 k5 k6 k7 k8 bK bL ownw IMJ IDJ IQJ XJ CW
  change Code.wp _ _ _ _ (wK.alloc (.cells #[.int .i64 lp.day, .slice sw.a1 lp.curs.length sw.c1, .slice sw.a2 lp.unders.length sw.c2, .slice sw.a3 lp.instrs.length sw.c3, .slice sw.a4 lp.accts.length sw.c4, .slice sw.a5 lp.poss.length sw.c5, .slice sw.a6 lp.orders.length sw.c6, .slice sw.a7 lp.avail.length sw.c7, .slice sw.a8 lp.locs.length sw.c8] 37))
  generalize wK.alloc (.cells #[.int .i64 lp.day, .slice sw.a1 lp.curs.length sw.c1, .slice sw.a2 lp.unders.length sw.c2, .slice sw.a3 lp.instrs.length sw.c3, .slice sw.a4 lp.accts.length sw.c4, .slice sw.a5 lp.poss.length sw.c5, .slice sw.a6 lp.orders.length sw.c6, .slice sw.a7 lp.avail.length sw.c7, .slice sw.a8 lp.locs.length sw.c8] 37) = wL at *
  generalize wK.heap.size = gw at *
  have SQW := Lib.hid (fun W h h2 => rsame_calls sq lp uq sw lp uw W h h2 hfp hfp)
  simp only [decide_true] at SQW
  unfold ledV at SQW
  have k0 : wL.cell? ⟨gm, 0, none⟩ = some (.int .i64 l.day) := IML.out.box.cell 0
  have k1 : wL.cell? ⟨gm, 1, none⟩ = some (.slice sm.a1 l.curs.length sm.c1) := IML.out.box.cell 1
  have k2 : wL.cell? ⟨gm, 2, none⟩ = some (.slice sm.a2 l.unders.length sm.c2) := IML.out.box.cell 2
  have k3 : wL.cell? ⟨gm, 3, none⟩ = some (.slice sm.a3 l.instrs.length sm.c3) := IML.out.box.cell 3
  have k4 : wL.cell? ⟨gm, 4, none⟩ = some (.slice sm.a4 l.accts.length sm.c4) := IML.out.box.cell 4
  have k5 : wL.cell? ⟨gm, 5, none⟩ = some (.slice sm.a5 l.poss.length sm.c5) := IML.out.box.cell 5
  have k6 : wL.cell? ⟨gm, 6, none⟩ = some (.slice sm.a6 l.orders.length sm.c6) := IML.out.box.cell 6
  have k7 : wL.cell? ⟨gm, 7, none⟩ = some (.slice sm.a7 l.avail.length sm.c7) := IML.out.box.cell 7
  have k8 : wL.cell? ⟨gm, 8, none⟩ = some (.slice sm.a8 l.locs.length sm.c8) := IML.out.box.cell 8
  have j0 : wL.cell? ⟨w.heap.size, 0, none⟩ = some (.int .i64 l.day) := XL.out.box.cell 0
  have j1 : wL.cell? ⟨w.heap.size, 1, none⟩ = some (.slice s.a1 l.curs.length s.c1) := XL.out.box.cell 1
  have j2 : wL.cell? ⟨w.heap.size, 2, none⟩ = some (.slice s.a2 l.unders.length s.c2) := XL.out.box.cell 2
  have j3 : wL.cell? ⟨w.heap.size, 3, none⟩ = some (.slice s.a3 l.instrs.length s.c3) := XL.out.box.cell 3
  have j4 : wL.cell? ⟨w.heap.size, 4, none⟩ = some (.slice s.a4 l.accts.length s.c4) := XL.out.box.cell 4
  have j5 : wL.cell? ⟨w.heap.size, 5, none⟩ = some (.slice s.a5 l.poss.length s.c5) := XL.out.box.cell 5
  have j6 : wL.cell? ⟨w.heap.size, 6, none⟩ = some (.slice s.a6 l.orders.length s.c6) := XL.out.box.cell 6
  have j7 : wL.cell? ⟨w.heap.size, 7, none⟩ = some (.slice s.a7 l.avail.length s.c7) := XL.out.box.cell 7
  have j8 : wL.cell? ⟨w.heap.size, 8, none⟩ = some (.slice s.a8 l.locs.length s.c8) := XL.out.box.cell 8
  go_wp2_with (first
    | (go_at_call 14; refine (SQW.out _ IQN.out.own.at_ IWN.out.own.at_).mono ?_; rintro e wO ⟨rfl, bO⟩; have XO := Lib.hid (XN.out.keep bO))
    | (go_at_call 14; refine (SD.out _ IDM.out.own.at_ XM.out.at_).mono ?_; rintro e wN ⟨rfl, bN⟩; have IQN := Lib.hid (IQM.out.keep bN); have IWN := Lib.hid (IWM.out.keep bN); have XN := Lib.hid (XM.out.keep bN); clear k0 k1 k2 k3 k4 k5 k6 k7 k8 j0 j1 j2 j3 j4 j5 j6 j7 j8; have k0 : wN.cell? ⟨gq, 0, none⟩ = some (.int .i64 lp.day) := IQN.out.box.cell 0; have k1 : wN.cell? ⟨gq, 1, none⟩ = some (.slice sq.a1 lp.curs.length sq.c1) := IQN.out.box.cell 1; have k2 : wN.cell? ⟨gq, 2, none⟩ = some (.slice sq.a2 lp.unders.length sq.c2) := IQN.out.box.cell 2; have k3 : wN.cell? ⟨gq, 3, none⟩ = some (.slice sq.a3 lp.instrs.length sq.c3) := IQN.out.box.cell 3; have k4 : wN.cell? ⟨gq, 4, none⟩ = some (.slice sq.a4 lp.accts.length sq.c4) := IQN.out.box.cell 4; have k5 : wN.cell? ⟨gq, 5, none⟩ = some (.slice sq.a5 lp.poss.length sq.c5) := IQN.out.box.cell 5; have k6 : wN.cell? ⟨gq, 6, none⟩ = some (.slice sq.a6 lp.orders.length sq.c6) := IQN.out.box.cell 6; have k7 : wN.cell? ⟨gq, 7, none⟩ = some (.slice sq.a7 lp.avail.length sq.c7) := IQN.out.box.cell 7; have k8 : wN.cell? ⟨gq, 8, none⟩ = some (.slice sq.a8 lp.locs.length sq.c8) := IQN.out.box.cell 8; have j0 : wN.cell? ⟨gw, 0, none⟩ = some (.int .i64 lp.day) := IWN.out.box.cell 0; have j1 : wN.cell? ⟨gw, 1, none⟩ = some (.slice sw.a1 lp.curs.length sw.c1) := IWN.out.box.cell 1; have j2 : wN.cell? ⟨gw, 2, none⟩ = some (.slice sw.a2 lp.unders.length sw.c2) := IWN.out.box.cell 2; have j3 : wN.cell? ⟨gw, 3, none⟩ = some (.slice sw.a3 lp.instrs.length sw.c3) := IWN.out.box.cell 3; have j4 : wN.cell? ⟨gw, 4, none⟩ = some (.slice sw.a4 lp.accts.length sw.c4) := IWN.out.box.cell 4; have j5 : wN.cell? ⟨gw, 5, none⟩ = some (.slice sw.a5 lp.poss.length sw.c5) := IWN.out.box.cell 5; have j6 : wN.cell? ⟨gw, 6, none⟩ = some (.slice sw.a6 lp.orders.length sw.c6) := IWN.out.box.cell 6; have j7 : wN.cell? ⟨gw, 7, none⟩ = some (.slice sw.a7 lp.avail.length sw.c7) := IWN.out.box.cell 7; have j8 : wN.cell? ⟨gw, 8, none⟩ = some (.slice sw.a8 lp.locs.length sw.c8) := IWN.out.box.cell 8)
    | (go_at_call 14; refine (SM.out _ IML.out.own.at_ XL.out.at_).mono ?_; rintro e wM ⟨rfl, bM⟩; have IDM := Lib.hid (IDL.out.keep bM); have IQM := Lib.hid (IQL.out.keep bM); have IWM := Lib.hid (IWL.out.keep bM); have XM := Lib.hid (XL.out.keep bM); clear k0 k1 k2 k3 k4 k5 k6 k7 k8 j0 j1 j2 j3 j4 j5 j6 j7 j8; have k0 : wM.cell? ⟨gd, 0, none⟩ = some (.int .i64 l.day) := IDM.out.box.cell 0; have k1 : wM.cell? ⟨gd, 1, none⟩ = some (.slice sd.a1 l.curs.length sd.c1) := IDM.out.box.cell 1; have k2 : wM.cell? ⟨gd, 2, none⟩ = some (.slice sd.a2 l.unders.length sd.c2) := IDM.out.box.cell 2; have k3 : wM.cell? ⟨gd, 3, none⟩ = some (.slice sd.a3 l.instrs.length sd.c3) := IDM.out.box.cell 3; have k4 : wM.cell? ⟨gd, 4, none⟩ = some (.slice sd.a4 l.accts.length sd.c4) := IDM.out.box.cell 4; have k5 : wM.cell? ⟨gd, 5, none⟩ = some (.slice sd.a5 l.poss.length sd.c5) := IDM.out.box.cell 5; have k6 : wM.cell? ⟨gd, 6, none⟩ = some (.slice sd.a6 l.orders.length sd.c6) := IDM.out.box.cell 6; have k7 : wM.cell? ⟨gd, 7, none⟩ = some (.slice sd.a7 l.avail.length sd.c7) := IDM.out.box.cell 7; have k8 : wM.cell? ⟨gd, 8, none⟩ = some (.slice sd.a8 l.locs.length sd.c8) := IDM.out.box.cell 8; have j0 : wM.cell? ⟨w.heap.size, 0, none⟩ = some (.int .i64 l.day) := XM.out.box.cell 0; have j1 : wM.cell? ⟨w.heap.size, 1, none⟩ = some (.slice s.a1 l.curs.length s.c1) := XM.out.box.cell 1; have j2 : wM.cell? ⟨w.heap.size, 2, none⟩ = some (.slice s.a2 l.unders.length s.c2) := XM.out.box.cell 2; have j3 : wM.cell? ⟨w.heap.size, 3, none⟩ = some (.slice s.a3 l.instrs.length s.c3) := XM.out.box.cell 3; have j4 : wM.cell? ⟨w.heap.size, 4, none⟩ = some (.slice s.a4 l.accts.length s.c4) := XM.out.box.cell 4; have j5 : wM.cell? ⟨w.heap.size, 5, none⟩ = some (.slice s.a5 l.poss.length s.c5) := XM.out.box.cell 5; have j6 : wM.cell? ⟨w.heap.size, 6, none⟩ = some (.slice s.a6 l.orders.length s.c6) := XM.out.box.cell 6; have j7 : wM.cell? ⟨w.heap.size, 7, none⟩ = some (.slice s.a7 l.avail.length s.c7) := XM.out.box.cell 7; have j8 : wM.cell? ⟨w.heap.size, 8, none⟩ = some (.slice s.a8 l.locs.length s.c8) := XM.out.box.cell 8))
  go_ret
  exact ⟨rfl, XO.out.low⟩

set_option maxRecDepth 100000 in
theorem opened (H : Type) (enc : TypeId × Value → H) (W : World) (base : Nat) (args : Array Value) (ds : List (DataW H)) (p : List MemPlace)
    (hval : ∀ (j : Nat) t v, Tryd.f4.params[j]? = some t → args[j]? = some v → Value.okWide Tryd.prog W .any base t v)
    (hA : DataW.TrodAll enc Tryd.prog W 0 (fun _ => true) true Tryd.f4.params.toList args.toList ds p)
    (hr : ∀ x ∈ DataW.weightsEach Tryd.prog Tryd.f4.params.toList ds, x ≤ reachBytes)
    (hL : laidMetH Tryd.prog Rows.ledgerKeepsRow.laid W) :
    Calls Tryd.prog 4 args W fun e W' => e = .returned (.bool true) ∧ Below W.heap.size W W' := by
  rw [Tryd.params4] at hA hval hr
  have _ := hL
  obtain ⟨v0, vs0, d0, ds0, p0, q0, hargs, rfl, rfl, h0, r0⟩ := trodAll_cons hA
  obtain ⟨v1, vs1, d1, ds1, p1, q1, rfl, rfl, rfl, h1, r1⟩ := trodAll_cons r0
  obtain ⟨rfl, rfl, rfl⟩ := trodAll_nil r1
  obtain rfl : args = #[v0, v1] := by cases args; simp_all
  obtain ⟨s, l, vs, rfl, hat, hok, hb⟩ := open_ledger2 (hval 0 37 v0 rfl rfl) h0 (fun x hx => hr x (by simp only [DataW.weightsEach, List.mem_append]; exact .inl hx))
  obtain ⟨a, rfl, rfl, rfl, wa⟩ := open_int Tryd.underlying3 (hval 1 3 v1 rfl rfl) h1
  exact walk s l vs a W hat hok hb (i64_wf wa)
end Go.Proofs.YtmimhimlgbklpaaDoor.ledgerKeeps
