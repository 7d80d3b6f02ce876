/- LedgerSames: the walk, and the step from the law's arguments to it. Written by gensames.py. -/
import Derived.Test.YtmimhimlgbklpaaDoorLedFit
set_option linter.unusedSimpArgs false
set_option linter.unusedVariables false
namespace Go.Proofs.YtmimhimlgbklpaaDoor.ledgerSames
open Go.ChangeShapes Go.WideShapes Go.ChangeAt Go.RowKit Go.Proofs.YtmimhimlgbklpaaDoor.Bas Go.Proofs.YtmimhimlgbklpaaDoor.LedM Go.Proofs.YtmimhimlgbklpaaDoor.LedW

set_option maxHeartbeats 8000000 in
set_option maxRecDepth 100000 in
theorem walk (s : Lists) (l : Led) (vs : List (Value × Acc)) (r : Lists) (m : Led) (us : List (Value × Acc)) (w : World) (h1 : LedAt w s l vs) (o1 : LedOk w l vs s) (b1 : LedBig l) (h2 : LedAt w r m us) (o2 : LedOk w m us r) (b2 : LedBig m) :
    Calls Tryd.prog 6 #[ledV s l, ledV r m] w fun e w' => e = .returned (.bool true) ∧ Below w.heap.size w w' := by
  have X := twoLed_new w s l vs r m us h1 h2
  have D0 := Lib.hid (fun W => lwakes_calls W)
  have DA := Lib.hid (fun W h => wide_calls s l vs W h b1 (cash_big o1 h1))
  have DB := Lib.hid (fun W h => wide_calls r m us W h b2 (cash_big o2 h2))
  have HF1 := Lib.hid (fun h => fit_of o1 h1 h)
  have HF2 := Lib.hid (fun h => fit_of o2 h2 h)
  clear h1 o1 b1 h2 o2 b2
  unfold ledV at DA DB ⊢
  go_enter Tryd.func6, Tryd.ntmps6
  go_upto_region 1 with fail
  change Code.wp _ _ _ _ ((w.alloc (.cells #[.int .i64 l.day, .slice s.a1 l.curs.length s.c1, .slice s.a2 l.unders.length s.c2, .slice s.a3 l.instrs.length s.c3, .slice s.a4 l.accts.length s.c4, .slice s.a5 l.poss.length s.c5, .slice s.a6 l.orders.length s.c6, .slice s.a7 l.avail.length s.c7, .slice s.a8 l.locs.length s.c8] 37)).alloc (.cells #[.int .i64 m.day, .slice r.a1 m.curs.length r.c1, .slice r.a2 m.unders.length r.c2, .slice r.a3 m.instrs.length r.c3, .slice r.a4 m.accts.length r.c4, .slice r.a5 m.poss.length r.c5, .slice r.a6 m.orders.length r.c6, .slice r.a7 m.avail.length r.c7, .slice r.a8 m.locs.length r.c8] 37))
  generalize (w.alloc (.cells #[.int .i64 l.day, .slice s.a1 l.curs.length s.c1, .slice s.a2 l.unders.length s.c2, .slice s.a3 l.instrs.length s.c3, .slice s.a4 l.accts.length s.c4, .slice s.a5 l.poss.length s.c5, .slice s.a6 l.orders.length s.c6, .slice s.a7 l.avail.length s.c7, .slice s.a8 l.locs.length s.c8] 37)).alloc (.cells #[.int .i64 m.day, .slice r.a1 m.curs.length r.c1, .slice r.a2 m.unders.length r.c2, .slice r.a3 m.instrs.length r.c3, .slice r.a4 m.accts.length r.c4, .slice r.a5 m.poss.length r.c5, .slice r.a6 m.orders.length r.c6, .slice r.a7 m.avail.length r.c7, .slice r.a8 m.locs.length r.c8] 37) = w0 at *
  have XH := Lib.hid X
  clear X
  cases ha : wideF l with
  | true =>
    rw [ha] at DA
    clear ha HF1 HF2
    go_wp2_with (first | (go_at_call 8; refine (D0.out _).mono ?_; rintro e w1 ⟨rfl, b1⟩; have X1 := XH.out.keep b1; have k0 : w1.cell? ⟨w.heap.size, 0, none⟩ = some (.int .i64 l.day) := X1.one.box.cell 0; have k1 : w1.cell? ⟨w.heap.size, 1, none⟩ = some (.slice s.a1 l.curs.length s.c1) := X1.one.box.cell 1; have k2 : w1.cell? ⟨w.heap.size, 2, none⟩ = some (.slice s.a2 l.unders.length s.c2) := X1.one.box.cell 2; have k3 : w1.cell? ⟨w.heap.size, 3, none⟩ = some (.slice s.a3 l.instrs.length s.c3) := X1.one.box.cell 3; have k4 : w1.cell? ⟨w.heap.size, 4, none⟩ = some (.slice s.a4 l.accts.length s.c4) := X1.one.box.cell 4; have k5 : w1.cell? ⟨w.heap.size, 5, none⟩ = some (.slice s.a5 l.poss.length s.c5) := X1.one.box.cell 5; have k6 : w1.cell? ⟨w.heap.size, 6, none⟩ = some (.slice s.a6 l.orders.length s.c6) := X1.one.box.cell 6; have k7 : w1.cell? ⟨w.heap.size, 7, none⟩ = some (.slice s.a7 l.avail.length s.c7) := X1.one.box.cell 7; have k8 : w1.cell? ⟨w.heap.size, 8, none⟩ = some (.slice s.a8 l.locs.length s.c8) := X1.one.box.cell 8; have j0 : w1.cell? ⟨w.heap.size + 1, 0, none⟩ = some (.int .i64 m.day) := X1.two.box.cell 0; have j1 : w1.cell? ⟨w.heap.size + 1, 1, none⟩ = some (.slice r.a1 m.curs.length r.c1) := X1.two.box.cell 1; have j2 : w1.cell? ⟨w.heap.size + 1, 2, none⟩ = some (.slice r.a2 m.unders.length r.c2) := X1.two.box.cell 2; have j3 : w1.cell? ⟨w.heap.size + 1, 3, none⟩ = some (.slice r.a3 m.instrs.length r.c3) := X1.two.box.cell 3; have j4 : w1.cell? ⟨w.heap.size + 1, 4, none⟩ = some (.slice r.a4 m.accts.length r.c4) := X1.two.box.cell 4; have j5 : w1.cell? ⟨w.heap.size + 1, 5, none⟩ = some (.slice r.a5 m.poss.length r.c5) := X1.two.box.cell 5; have j6 : w1.cell? ⟨w.heap.size + 1, 6, none⟩ = some (.slice r.a6 m.orders.length r.c6) := X1.two.box.cell 6; have j7 : w1.cell? ⟨w.heap.size + 1, 7, none⟩ = some (.slice r.a7 m.avail.length r.c7) := X1.two.box.cell 7; have j8 : w1.cell? ⟨w.heap.size + 1, 8, none⟩ = some (.slice r.a8 m.locs.length r.c8) := X1.two.box.cell 8) | (go_at_call 10; refine (DA.out _ X1.one.at_).mono ?_; rintro e w2 ⟨rfl, b2⟩))
    go_ret
    exact ⟨rfl, X1.one.low.trans (b2.mono X1.one.low.size)⟩
  | false =>
  rw [ha] at DA
  have f1 := HF1.out ha
  have HG1 := Lib.hid f1
  clear HF1 ha f1
  cases hb : wideF m with
  | true =>
    rw [hb] at DB
    clear hb HF2
    go_wp2_with (first | (go_at_call 8; refine (D0.out _).mono ?_; rintro e w1 ⟨rfl, b1⟩; have X1 := XH.out.keep b1; have k0 : w1.cell? ⟨w.heap.size, 0, none⟩ = some (.int .i64 l.day) := X1.one.box.cell 0; have k1 : w1.cell? ⟨w.heap.size, 1, none⟩ = some (.slice s.a1 l.curs.length s.c1) := X1.one.box.cell 1; have k2 : w1.cell? ⟨w.heap.size, 2, none⟩ = some (.slice s.a2 l.unders.length s.c2) := X1.one.box.cell 2; have k3 : w1.cell? ⟨w.heap.size, 3, none⟩ = some (.slice s.a3 l.instrs.length s.c3) := X1.one.box.cell 3; have k4 : w1.cell? ⟨w.heap.size, 4, none⟩ = some (.slice s.a4 l.accts.length s.c4) := X1.one.box.cell 4; have k5 : w1.cell? ⟨w.heap.size, 5, none⟩ = some (.slice s.a5 l.poss.length s.c5) := X1.one.box.cell 5; have k6 : w1.cell? ⟨w.heap.size, 6, none⟩ = some (.slice s.a6 l.orders.length s.c6) := X1.one.box.cell 6; have k7 : w1.cell? ⟨w.heap.size, 7, none⟩ = some (.slice s.a7 l.avail.length s.c7) := X1.one.box.cell 7; have k8 : w1.cell? ⟨w.heap.size, 8, none⟩ = some (.slice s.a8 l.locs.length s.c8) := X1.one.box.cell 8; have j0 : w1.cell? ⟨w.heap.size + 1, 0, none⟩ = some (.int .i64 m.day) := X1.two.box.cell 0; have j1 : w1.cell? ⟨w.heap.size + 1, 1, none⟩ = some (.slice r.a1 m.curs.length r.c1) := X1.two.box.cell 1; have j2 : w1.cell? ⟨w.heap.size + 1, 2, none⟩ = some (.slice r.a2 m.unders.length r.c2) := X1.two.box.cell 2; have j3 : w1.cell? ⟨w.heap.size + 1, 3, none⟩ = some (.slice r.a3 m.instrs.length r.c3) := X1.two.box.cell 3; have j4 : w1.cell? ⟨w.heap.size + 1, 4, none⟩ = some (.slice r.a4 m.accts.length r.c4) := X1.two.box.cell 4; have j5 : w1.cell? ⟨w.heap.size + 1, 5, none⟩ = some (.slice r.a5 m.poss.length r.c5) := X1.two.box.cell 5; have j6 : w1.cell? ⟨w.heap.size + 1, 6, none⟩ = some (.slice r.a6 m.orders.length r.c6) := X1.two.box.cell 6; have j7 : w1.cell? ⟨w.heap.size + 1, 7, none⟩ = some (.slice r.a7 m.avail.length r.c7) := X1.two.box.cell 7; have j8 : w1.cell? ⟨w.heap.size + 1, 8, none⟩ = some (.slice r.a8 m.locs.length r.c8) := X1.two.box.cell 8) | (go_at_call 10; first | (refine (DB.out _ X2.two.at_).mono ?_; rintro e w3 ⟨rfl, b3⟩) | (refine (DA.out _ X1.one.at_).mono ?_; rintro e w2 ⟨rfl, b2⟩; have X2 := X1.keep b2; clear k0 k1 k2 k3 k4 k5 k6 k7 k8 j0 j1 j2 j3 j4 j5 j6 j7 j8; have k0 : w2.cell? ⟨w.heap.size, 0, none⟩ = some (.int .i64 l.day) := X2.one.box.cell 0; have k1 : w2.cell? ⟨w.heap.size, 1, none⟩ = some (.slice s.a1 l.curs.length s.c1) := X2.one.box.cell 1; have k2 : w2.cell? ⟨w.heap.size, 2, none⟩ = some (.slice s.a2 l.unders.length s.c2) := X2.one.box.cell 2; have k3 : w2.cell? ⟨w.heap.size, 3, none⟩ = some (.slice s.a3 l.instrs.length s.c3) := X2.one.box.cell 3; have k4 : w2.cell? ⟨w.heap.size, 4, none⟩ = some (.slice s.a4 l.accts.length s.c4) := X2.one.box.cell 4; have k5 : w2.cell? ⟨w.heap.size, 5, none⟩ = some (.slice s.a5 l.poss.length s.c5) := X2.one.box.cell 5; have k6 : w2.cell? ⟨w.heap.size, 6, none⟩ = some (.slice s.a6 l.orders.length s.c6) := X2.one.box.cell 6; have k7 : w2.cell? ⟨w.heap.size, 7, none⟩ = some (.slice s.a7 l.avail.length s.c7) := X2.one.box.cell 7; have k8 : w2.cell? ⟨w.heap.size, 8, none⟩ = some (.slice s.a8 l.locs.length s.c8) := X2.one.box.cell 8; have j0 : w2.cell? ⟨w.heap.size + 1, 0, none⟩ = some (.int .i64 m.day) := X2.two.box.cell 0; have j1 : w2.cell? ⟨w.heap.size + 1, 1, none⟩ = some (.slice r.a1 m.curs.length r.c1) := X2.two.box.cell 1; have j2 : w2.cell? ⟨w.heap.size + 1, 2, none⟩ = some (.slice r.a2 m.unders.length r.c2) := X2.two.box.cell 2; have j3 : w2.cell? ⟨w.heap.size + 1, 3, none⟩ = some (.slice r.a3 m.instrs.length r.c3) := X2.two.box.cell 3; have j4 : w2.cell? ⟨w.heap.size + 1, 4, none⟩ = some (.slice r.a4 m.accts.length r.c4) := X2.two.box.cell 4; have j5 : w2.cell? ⟨w.heap.size + 1, 5, none⟩ = some (.slice r.a5 m.poss.length r.c5) := X2.two.box.cell 5; have j6 : w2.cell? ⟨w.heap.size + 1, 6, none⟩ = some (.slice r.a6 m.orders.length r.c6) := X2.two.box.cell 6; have j7 : w2.cell? ⟨w.heap.size + 1, 7, none⟩ = some (.slice r.a7 m.avail.length r.c7) := X2.two.box.cell 7; have j8 : w2.cell? ⟨w.heap.size + 1, 8, none⟩ = some (.slice r.a8 m.locs.length r.c8) := X2.two.box.cell 8)))
    go_ret
    exact ⟨rfl, X2.one.low.trans (b3.mono X2.one.low.size)⟩
  | false =>
  rw [hb] at DB
  have f2 := HF2.out hb
  have HG2 := Lib.hid f2
  clear HF2 hb f2
  go_upto_region 5 with (first | (go_at_call 8; refine (D0.out _).mono ?_; rintro e w1 ⟨rfl, b1⟩; have X1 := XH.out.keep b1; have k0 : w1.cell? ⟨w.heap.size, 0, none⟩ = some (.int .i64 l.day) := X1.one.box.cell 0; have k1 : w1.cell? ⟨w.heap.size, 1, none⟩ = some (.slice s.a1 l.curs.length s.c1) := X1.one.box.cell 1; have k2 : w1.cell? ⟨w.heap.size, 2, none⟩ = some (.slice s.a2 l.unders.length s.c2) := X1.one.box.cell 2; have k3 : w1.cell? ⟨w.heap.size, 3, none⟩ = some (.slice s.a3 l.instrs.length s.c3) := X1.one.box.cell 3; have k4 : w1.cell? ⟨w.heap.size, 4, none⟩ = some (.slice s.a4 l.accts.length s.c4) := X1.one.box.cell 4; have k5 : w1.cell? ⟨w.heap.size, 5, none⟩ = some (.slice s.a5 l.poss.length s.c5) := X1.one.box.cell 5; have k6 : w1.cell? ⟨w.heap.size, 6, none⟩ = some (.slice s.a6 l.orders.length s.c6) := X1.one.box.cell 6; have k7 : w1.cell? ⟨w.heap.size, 7, none⟩ = some (.slice s.a7 l.avail.length s.c7) := X1.one.box.cell 7; have k8 : w1.cell? ⟨w.heap.size, 8, none⟩ = some (.slice s.a8 l.locs.length s.c8) := X1.one.box.cell 8; have j0 : w1.cell? ⟨w.heap.size + 1, 0, none⟩ = some (.int .i64 m.day) := X1.two.box.cell 0; have j1 : w1.cell? ⟨w.heap.size + 1, 1, none⟩ = some (.slice r.a1 m.curs.length r.c1) := X1.two.box.cell 1; have j2 : w1.cell? ⟨w.heap.size + 1, 2, none⟩ = some (.slice r.a2 m.unders.length r.c2) := X1.two.box.cell 2; have j3 : w1.cell? ⟨w.heap.size + 1, 3, none⟩ = some (.slice r.a3 m.instrs.length r.c3) := X1.two.box.cell 3; have j4 : w1.cell? ⟨w.heap.size + 1, 4, none⟩ = some (.slice r.a4 m.accts.length r.c4) := X1.two.box.cell 4; have j5 : w1.cell? ⟨w.heap.size + 1, 5, none⟩ = some (.slice r.a5 m.poss.length r.c5) := X1.two.box.cell 5; have j6 : w1.cell? ⟨w.heap.size + 1, 6, none⟩ = some (.slice r.a6 m.orders.length r.c6) := X1.two.box.cell 6; have j7 : w1.cell? ⟨w.heap.size + 1, 7, none⟩ = some (.slice r.a7 m.avail.length r.c7) := X1.two.box.cell 7; have j8 : w1.cell? ⟨w.heap.size + 1, 8, none⟩ = some (.slice r.a8 m.locs.length r.c8) := X1.two.box.cell 8) | (go_at_call 10; first | (refine (DB.out _ X2.two.at_).mono ?_; rintro e w3 ⟨rfl, b3⟩; have X3 := X2.keep b3) | (refine (DA.out _ X1.one.at_).mono ?_; rintro e w2 ⟨rfl, b2⟩; have X2 := X1.keep b2; clear k0 k1 k2 k3 k4 k5 k6 k7 k8 j0 j1 j2 j3 j4 j5 j6 j7 j8; have k0 : w2.cell? ⟨w.heap.size, 0, none⟩ = some (.int .i64 l.day) := X2.one.box.cell 0; have k1 : w2.cell? ⟨w.heap.size, 1, none⟩ = some (.slice s.a1 l.curs.length s.c1) := X2.one.box.cell 1; have k2 : w2.cell? ⟨w.heap.size, 2, none⟩ = some (.slice s.a2 l.unders.length s.c2) := X2.one.box.cell 2; have k3 : w2.cell? ⟨w.heap.size, 3, none⟩ = some (.slice s.a3 l.instrs.length s.c3) := X2.one.box.cell 3; have k4 : w2.cell? ⟨w.heap.size, 4, none⟩ = some (.slice s.a4 l.accts.length s.c4) := X2.one.box.cell 4; have k5 : w2.cell? ⟨w.heap.size, 5, none⟩ = some (.slice s.a5 l.poss.length s.c5) := X2.one.box.cell 5; have k6 : w2.cell? ⟨w.heap.size, 6, none⟩ = some (.slice s.a6 l.orders.length s.c6) := X2.one.box.cell 6; have k7 : w2.cell? ⟨w.heap.size, 7, none⟩ = some (.slice s.a7 l.avail.length s.c7) := X2.one.box.cell 7; have k8 : w2.cell? ⟨w.heap.size, 8, none⟩ = some (.slice s.a8 l.locs.length s.c8) := X2.one.box.cell 8; have j0 : w2.cell? ⟨w.heap.size + 1, 0, none⟩ = some (.int .i64 m.day) := X2.two.box.cell 0; have j1 : w2.cell? ⟨w.heap.size + 1, 1, none⟩ = some (.slice r.a1 m.curs.length r.c1) := X2.two.box.cell 1; have j2 : w2.cell? ⟨w.heap.size + 1, 2, none⟩ = some (.slice r.a2 m.unders.length r.c2) := X2.two.box.cell 2; have j3 : w2.cell? ⟨w.heap.size + 1, 3, none⟩ = some (.slice r.a3 m.instrs.length r.c3) := X2.two.box.cell 3; have j4 : w2.cell? ⟨w.heap.size + 1, 4, none⟩ = some (.slice r.a4 m.accts.length r.c4) := X2.two.box.cell 4; have j5 : w2.cell? ⟨w.heap.size + 1, 5, none⟩ = some (.slice r.a5 m.poss.length r.c5) := X2.two.box.cell 5; have j6 : w2.cell? ⟨w.heap.size + 1, 6, none⟩ = some (.slice r.a6 m.orders.length r.c6) := X2.two.box.cell 6; have j7 : w2.cell? ⟨w.heap.size + 1, 7, none⟩ = some (.slice r.a7 m.avail.length r.c7) := X2.two.box.cell 7; have j8 : w2.cell? ⟨w.heap.size + 1, 8, none⟩ = some (.slice r.a8 m.locs.length r.c8) := X2.two.box.cell 8)))
  have X4 := Lib.hid X3
  clear k0 k1 k2 k3 k4 k5 k6 k7 k8 j0 j1 j2 j3 j4 j5 j6 j7 j8 X1 X2 X3 b1 b2 b3 D0 DA DB XH
  have C1 := Lib.hid (fun W (X : TwoLed w W s l vs r m us) => same_calls s l vs r m us W X.one.at_ X.two.at_ HG1.out HG2.out)
  have C2 := Lib.hid (fun W (X : TwoLed w W s l vs r m us) => rsame_calls s l vs r m us W X.one.at_ X.two.at_ HG1.out HG2.out)
  have C3 := Lib.hid (fun W (X : TwoLed w W s l vs r m us) => same_calls r m us s l vs W X.two.at_ X.one.at_ HG2.out HG1.out)
  have C4 := Lib.hid (fun W (X : TwoLed w W s l vs r m us) => copy_calls s l vs W X.one.at_ HG1.out)
  have C5 := Lib.hid (fun W (X : TwoLed w W s l vs r m us) s' us' (h : LedAt W s' l us') => same_calls s l vs s' l us' W X.one.at_ h HG1.out HG1.out)
  have C6 := Lib.hid (fun W (X : TwoLed w W s l vs r m us) => copy_calls r m us W X.two.at_ HG2.out)
  have C7 := Lib.hid (fun W (X : TwoLed w W s l vs r m us) s' us' (h : LedAt W s' m us') => same_calls s' m us' r m us W h X.two.at_ HG2.out HG2.out)
  have hc : decide (m = l) = decide (l = m) := decide_eq_decide.2 ⟨Eq.symm, Eq.symm⟩
  rw [hc] at C3
  simp only [decide_true] at C5 C7
  clear hc
  generalize decide (l = m) = b at C1 C2 C3
  unfold ledV at C1 C2 C3 C4 C5 C6 C7
  refine stage_region 29 (fun W => W.cell? ⟨w.heap.size, 0, none⟩ = some (.int .i64 l.day) ∧ W.cell? ⟨w.heap.size, 1, none⟩ = some (.slice s.a1 l.curs.length s.c1) ∧ W.cell? ⟨w.heap.size, 2, none⟩ = some (.slice s.a2 l.unders.length s.c2) ∧ W.cell? ⟨w.heap.size, 3, none⟩ = some (.slice s.a3 l.instrs.length s.c3) ∧ W.cell? ⟨w.heap.size, 4, none⟩ = some (.slice s.a4 l.accts.length s.c4) ∧ W.cell? ⟨w.heap.size, 5, none⟩ = some (.slice s.a5 l.poss.length s.c5) ∧ W.cell? ⟨w.heap.size, 6, none⟩ = some (.slice s.a6 l.orders.length s.c6) ∧ W.cell? ⟨w.heap.size, 7, none⟩ = some (.slice s.a7 l.avail.length s.c7) ∧ W.cell? ⟨w.heap.size, 8, none⟩ = some (.slice s.a8 l.locs.length s.c8) ∧ W.cell? ⟨w.heap.size + 1, 0, none⟩ = some (.int .i64 m.day) ∧ W.cell? ⟨w.heap.size + 1, 1, none⟩ = some (.slice r.a1 m.curs.length r.c1) ∧ W.cell? ⟨w.heap.size + 1, 2, none⟩ = some (.slice r.a2 m.unders.length r.c2) ∧ W.cell? ⟨w.heap.size + 1, 3, none⟩ = some (.slice r.a3 m.instrs.length r.c3) ∧ W.cell? ⟨w.heap.size + 1, 4, none⟩ = some (.slice r.a4 m.accts.length r.c4) ∧ W.cell? ⟨w.heap.size + 1, 5, none⟩ = some (.slice r.a5 m.poss.length r.c5) ∧ W.cell? ⟨w.heap.size + 1, 6, none⟩ = some (.slice r.a6 m.orders.length r.c6) ∧ W.cell? ⟨w.heap.size + 1, 7, none⟩ = some (.slice r.a7 m.avail.length r.c7) ∧ W.cell? ⟨w.heap.size + 1, 8, none⟩ = some (.slice r.a8 m.locs.length r.c8) ∧ TwoLed w W s l vs r m us) (by kernel_rfl) ?_
  have HS := X4.out.drew
  refine' stage_take (i := 0) _ rfl (by kernel_rfl) (by kernel_rfl) (by kernel_rfl) (by kernel_rfl) (fun _ _ _ h => h) ⟨HS.one.box.cell 0, HS.one.box.cell 1, HS.one.box.cell 2, HS.one.box.cell 3, HS.one.box.cell 4, HS.one.box.cell 5, HS.one.box.cell 6, HS.one.box.cell 7, HS.one.box.cell 8, HS.two.box.cell 0, HS.two.box.cell 1, HS.two.box.cell 2, HS.two.box.cell 3, HS.two.box.cell 4, HS.two.box.cell 5, HS.two.box.cell 6, HS.two.box.cell 7, HS.two.box.cell 8, HS⟩ _ (fun W hW => _) _
  rotate_left
  focus (go_simp; done)
  focus (obtain ⟨k1, k2, k3, k4, k5, k6, k7, k8, k9, k10, k11, k12, k13, k14, k15, k16, k17, k18, X9⟩ := hW; go_simp; first | done | (with_reducible rfl))
  simp only [Act.put, List.getElem_toArray, List.getElem_cons_succ, List.getElem_cons_zero, List.setIfInBounds_toArray, List.set_cons_zero, List.set_cons_succ]
  refine' stage_take (i := 1) _ rfl (by kernel_rfl) (by kernel_rfl) (by kernel_rfl) (by kernel_rfl) (fun _ _ _ h => h) ⟨HS.one.box.cell 0, HS.one.box.cell 1, HS.one.box.cell 2, HS.one.box.cell 3, HS.one.box.cell 4, HS.one.box.cell 5, HS.one.box.cell 6, HS.one.box.cell 7, HS.one.box.cell 8, HS.two.box.cell 0, HS.two.box.cell 1, HS.two.box.cell 2, HS.two.box.cell 3, HS.two.box.cell 4, HS.two.box.cell 5, HS.two.box.cell 6, HS.two.box.cell 7, HS.two.box.cell 8, HS⟩ _ (fun W hW => _) _
  rotate_left
  focus (go_simp; done)
  focus (obtain ⟨k1, k2, k3, k4, k5, k6, k7, k8, k9, k10, k11, k12, k13, k14, k15, k16, k17, k18, X9⟩ := hW; go_simp; first | done | (with_reducible rfl))
  simp only [Act.put, List.getElem_toArray, List.getElem_cons_succ, List.getElem_cons_zero, List.setIfInBounds_toArray, List.set_cons_zero, List.set_cons_succ]
  refine' stage_take (i := 3) _ rfl (by kernel_rfl) (by kernel_rfl) (by kernel_rfl) (by kernel_rfl) (fun _ _ _ h => h) ⟨HS.one.box.cell 0, HS.one.box.cell 1, HS.one.box.cell 2, HS.one.box.cell 3, HS.one.box.cell 4, HS.one.box.cell 5, HS.one.box.cell 6, HS.one.box.cell 7, HS.one.box.cell 8, HS.two.box.cell 0, HS.two.box.cell 1, HS.two.box.cell 2, HS.two.box.cell 3, HS.two.box.cell 4, HS.two.box.cell 5, HS.two.box.cell 6, HS.two.box.cell 7, HS.two.box.cell 8, HS⟩ _ (fun W hW => _) _
  rotate_left
  focus (go_simp; done)
  focus (obtain ⟨k1, k2, k3, k4, k5, k6, k7, k8, k9, k10, k11, k12, k13, k14, k15, k16, k17, k18, X9⟩ := hW; go_simp; first | done | (with_reducible rfl))
  simp only [Act.put, List.getElem_toArray, List.getElem_cons_succ, List.getElem_cons_zero, List.setIfInBounds_toArray, List.set_cons_zero, List.set_cons_succ]
  refine' stage_take (i := 4) _ rfl (by kernel_rfl) (by kernel_rfl) (by kernel_rfl) (by kernel_rfl) (fun _ _ _ h => h) ⟨HS.one.box.cell 0, HS.one.box.cell 1, HS.one.box.cell 2, HS.one.box.cell 3, HS.one.box.cell 4, HS.one.box.cell 5, HS.one.box.cell 6, HS.one.box.cell 7, HS.one.box.cell 8, HS.two.box.cell 0, HS.two.box.cell 1, HS.two.box.cell 2, HS.two.box.cell 3, HS.two.box.cell 4, HS.two.box.cell 5, HS.two.box.cell 6, HS.two.box.cell 7, HS.two.box.cell 8, HS⟩ _ (fun W hW => _) _
  rotate_left
  focus (go_simp; done)
  focus (obtain ⟨k1, k2, k3, k4, k5, k6, k7, k8, k9, k10, k11, k12, k13, k14, k15, k16, k17, k18, X9⟩ := hW; go_simp; first | done | (with_reducible rfl))
  simp only [Act.put, List.getElem_toArray, List.getElem_cons_succ, List.getElem_cons_zero, List.setIfInBounds_toArray, List.set_cons_zero, List.set_cons_succ]
  refine stage_only (i := 2) rfl (by kernel_rfl) ?_ (fun K hK => ?_)
  focus (go_simp; done)
  go_simp
  go_at_call 19
  refine (C1.out _ HS).mono ?_
  rintro e x2 ⟨rfl, y2⟩
  go_simp
  replace HS := HS.keep y2
  refine hK.out _ _ (fun _ => ⟨HS.one.box.cell 0, HS.one.box.cell 1, HS.one.box.cell 2, HS.one.box.cell 3, HS.one.box.cell 4, HS.one.box.cell 5, HS.one.box.cell 6, HS.one.box.cell 7, HS.one.box.cell 8, HS.two.box.cell 0, HS.two.box.cell 1, HS.two.box.cell 2, HS.two.box.cell 3, HS.two.box.cell 4, HS.two.box.cell 5, HS.two.box.cell 6, HS.two.box.cell 7, HS.two.box.cell 8, HS⟩) ?_
  clear hK K
  try simp only [Act.put, List.getElem_toArray, List.getElem_cons_succ, List.getElem_cons_zero, List.setIfInBounds_toArray, List.set_cons_zero, List.set_cons_succ]
  refine stage_only (i := 5) rfl (by kernel_rfl) ?_ (fun K hK => ?_)
  focus (go_simp; done)
  go_simp
  go_at_call 14
  refine (C2.out _ HS).mono ?_
  rintro e x5 ⟨rfl, y5⟩
  go_simp
  replace HS := HS.keep y5
  refine hK.out _ _ (fun _ => ⟨HS.one.box.cell 0, HS.one.box.cell 1, HS.one.box.cell 2, HS.one.box.cell 3, HS.one.box.cell 4, HS.one.box.cell 5, HS.one.box.cell 6, HS.one.box.cell 7, HS.one.box.cell 8, HS.two.box.cell 0, HS.two.box.cell 1, HS.two.box.cell 2, HS.two.box.cell 3, HS.two.box.cell 4, HS.two.box.cell 5, HS.two.box.cell 6, HS.two.box.cell 7, HS.two.box.cell 8, HS⟩) ?_
  clear hK K
  try simp only [Act.put, List.getElem_toArray, List.getElem_cons_succ, List.getElem_cons_zero, List.setIfInBounds_toArray, List.set_cons_zero, List.set_cons_succ]
  refine' stage_take (i := 6) _ rfl (by kernel_rfl) (by kernel_rfl) (by kernel_rfl) (by kernel_rfl) (fun _ _ _ h => h) ⟨HS.one.box.cell 0, HS.one.box.cell 1, HS.one.box.cell 2, HS.one.box.cell 3, HS.one.box.cell 4, HS.one.box.cell 5, HS.one.box.cell 6, HS.one.box.cell 7, HS.one.box.cell 8, HS.two.box.cell 0, HS.two.box.cell 1, HS.two.box.cell 2, HS.two.box.cell 3, HS.two.box.cell 4, HS.two.box.cell 5, HS.two.box.cell 6, HS.two.box.cell 7, HS.two.box.cell 8, HS⟩ _ (fun W hW => _) _
  rotate_left
  focus (go_simp; done)
  focus (obtain ⟨k1, k2, k3, k4, k5, k6, k7, k8, k9, k10, k11, k12, k13, k14, k15, k16, k17, k18, X9⟩ := hW; go_simp; first | done | (with_reducible rfl))
  simp only [Act.put, List.getElem_toArray, List.getElem_cons_succ, List.getElem_cons_zero, List.setIfInBounds_toArray, List.set_cons_zero, List.set_cons_succ]
  refine' stage_take (i := 7) _ rfl (by kernel_rfl) (by kernel_rfl) (by kernel_rfl) (by kernel_rfl) (fun _ _ _ h => h) ⟨HS.one.box.cell 0, HS.one.box.cell 1, HS.one.box.cell 2, HS.one.box.cell 3, HS.one.box.cell 4, HS.one.box.cell 5, HS.one.box.cell 6, HS.one.box.cell 7, HS.one.box.cell 8, HS.two.box.cell 0, HS.two.box.cell 1, HS.two.box.cell 2, HS.two.box.cell 3, HS.two.box.cell 4, HS.two.box.cell 5, HS.two.box.cell 6, HS.two.box.cell 7, HS.two.box.cell 8, HS⟩ _ (fun W hW => _) _
  rotate_left
  focus (go_simp; done)
  focus (obtain ⟨k1, k2, k3, k4, k5, k6, k7, k8, k9, k10, k11, k12, k13, k14, k15, k16, k17, k18, X9⟩ := hW; go_simp; first | done | (with_reducible rfl))
  simp only [Act.put, List.getElem_toArray, List.getElem_cons_succ, List.getElem_cons_zero, List.setIfInBounds_toArray, List.set_cons_zero, List.set_cons_succ]
  refine' stage_take (i := 8) _ rfl (by kernel_rfl) (by kernel_rfl) (by kernel_rfl) (by kernel_rfl) (fun _ _ _ h => h) ⟨HS.one.box.cell 0, HS.one.box.cell 1, HS.one.box.cell 2, HS.one.box.cell 3, HS.one.box.cell 4, HS.one.box.cell 5, HS.one.box.cell 6, HS.one.box.cell 7, HS.one.box.cell 8, HS.two.box.cell 0, HS.two.box.cell 1, HS.two.box.cell 2, HS.two.box.cell 3, HS.two.box.cell 4, HS.two.box.cell 5, HS.two.box.cell 6, HS.two.box.cell 7, HS.two.box.cell 8, HS⟩ _ (fun W hW => _) _
  rotate_left
  focus (go_simp; done)
  focus (obtain ⟨k1, k2, k3, k4, k5, k6, k7, k8, k9, k10, k11, k12, k13, k14, k15, k16, k17, k18, X9⟩ := hW; go_simp; first | done | (with_reducible rfl))
  simp only [Act.put, List.getElem_toArray, List.getElem_cons_succ, List.getElem_cons_zero, List.setIfInBounds_toArray, List.set_cons_zero, List.set_cons_succ]
  refine' stage_take (i := 9) _ rfl (by kernel_rfl) (by kernel_rfl) (by kernel_rfl) (by kernel_rfl) (fun _ _ _ h => h) ⟨HS.one.box.cell 0, HS.one.box.cell 1, HS.one.box.cell 2, HS.one.box.cell 3, HS.one.box.cell 4, HS.one.box.cell 5, HS.one.box.cell 6, HS.one.box.cell 7, HS.one.box.cell 8, HS.two.box.cell 0, HS.two.box.cell 1, HS.two.box.cell 2, HS.two.box.cell 3, HS.two.box.cell 4, HS.two.box.cell 5, HS.two.box.cell 6, HS.two.box.cell 7, HS.two.box.cell 8, HS⟩ _ (fun W hW => _) _
  rotate_left
  focus (go_simp; done)
  focus (obtain ⟨k1, k2, k3, k4, k5, k6, k7, k8, k9, k10, k11, k12, k13, k14, k15, k16, k17, k18, X9⟩ := hW; go_simp; first | done | (with_reducible rfl))
  simp only [Act.put, List.getElem_toArray, List.getElem_cons_succ, List.getElem_cons_zero, List.setIfInBounds_toArray, List.set_cons_zero, List.set_cons_succ]
  refine' stage_take (i := 11) _ rfl (by kernel_rfl) (by kernel_rfl) (by kernel_rfl) (by kernel_rfl) (fun _ _ _ h => h) ⟨HS.one.box.cell 0, HS.one.box.cell 1, HS.one.box.cell 2, HS.one.box.cell 3, HS.one.box.cell 4, HS.one.box.cell 5, HS.one.box.cell 6, HS.one.box.cell 7, HS.one.box.cell 8, HS.two.box.cell 0, HS.two.box.cell 1, HS.two.box.cell 2, HS.two.box.cell 3, HS.two.box.cell 4, HS.two.box.cell 5, HS.two.box.cell 6, HS.two.box.cell 7, HS.two.box.cell 8, HS⟩ _ (fun W hW => _) _
  rotate_left
  focus (go_simp; done)
  focus (obtain ⟨k1, k2, k3, k4, k5, k6, k7, k8, k9, k10, k11, k12, k13, k14, k15, k16, k17, k18, X9⟩ := hW; go_simp; first | done | (with_reducible rfl))
  simp only [Act.put, List.getElem_toArray, List.getElem_cons_succ, List.getElem_cons_zero, List.setIfInBounds_toArray, List.set_cons_zero, List.set_cons_succ]
  refine' stage_take (i := 12) _ rfl (by kernel_rfl) (by kernel_rfl) (by kernel_rfl) (by kernel_rfl) (fun _ _ _ h => h) ⟨HS.one.box.cell 0, HS.one.box.cell 1, HS.one.box.cell 2, HS.one.box.cell 3, HS.one.box.cell 4, HS.one.box.cell 5, HS.one.box.cell 6, HS.one.box.cell 7, HS.one.box.cell 8, HS.two.box.cell 0, HS.two.box.cell 1, HS.two.box.cell 2, HS.two.box.cell 3, HS.two.box.cell 4, HS.two.box.cell 5, HS.two.box.cell 6, HS.two.box.cell 7, HS.two.box.cell 8, HS⟩ _ (fun W hW => _) _
  rotate_left
  focus (go_simp; done)
  focus (obtain ⟨k1, k2, k3, k4, k5, k6, k7, k8, k9, k10, k11, k12, k13, k14, k15, k16, k17, k18, X9⟩ := hW; go_simp; first | done | (with_reducible rfl))
  simp only [Act.put, List.getElem_toArray, List.getElem_cons_succ, List.getElem_cons_zero, List.setIfInBounds_toArray, List.set_cons_zero, List.set_cons_succ]
  refine stage_only (i := 10) rfl (by kernel_rfl) ?_ (fun K hK => ?_)
  focus (go_simp; done)
  go_simp
  go_at_call 19
  refine (C3.out _ HS).mono ?_
  rintro e x10 ⟨rfl, y10⟩
  go_simp
  replace HS := HS.keep y10
  refine hK.out _ _ (fun _ => ⟨HS.one.box.cell 0, HS.one.box.cell 1, HS.one.box.cell 2, HS.one.box.cell 3, HS.one.box.cell 4, HS.one.box.cell 5, HS.one.box.cell 6, HS.one.box.cell 7, HS.one.box.cell 8, HS.two.box.cell 0, HS.two.box.cell 1, HS.two.box.cell 2, HS.two.box.cell 3, HS.two.box.cell 4, HS.two.box.cell 5, HS.two.box.cell 6, HS.two.box.cell 7, HS.two.box.cell 8, HS⟩) ?_
  clear hK K
  try simp only [Act.put, List.getElem_toArray, List.getElem_cons_succ, List.getElem_cons_zero, List.setIfInBounds_toArray, List.set_cons_zero, List.set_cons_succ]
  refine stage_only (i := 13) rfl (by kernel_rfl) ?_ (fun K hK => ?_)
  focus (go_simp; done)
  go_simp
  go_at_call 19
  refine (C1.out _ HS).mono ?_
  rintro e x13 ⟨rfl, y13⟩
  go_simp
  replace HS := HS.keep y13
  refine hK.out _ _ (fun _ => ⟨HS.one.box.cell 0, HS.one.box.cell 1, HS.one.box.cell 2, HS.one.box.cell 3, HS.one.box.cell 4, HS.one.box.cell 5, HS.one.box.cell 6, HS.one.box.cell 7, HS.one.box.cell 8, HS.two.box.cell 0, HS.two.box.cell 1, HS.two.box.cell 2, HS.two.box.cell 3, HS.two.box.cell 4, HS.two.box.cell 5, HS.two.box.cell 6, HS.two.box.cell 7, HS.two.box.cell 8, HS⟩) ?_
  clear hK K
  try simp only [Act.put, List.getElem_toArray, List.getElem_cons_succ, List.getElem_cons_zero, List.setIfInBounds_toArray, List.set_cons_zero, List.set_cons_succ]
  refine' stage_take (i := 14) _ rfl (by kernel_rfl) (by kernel_rfl) (by kernel_rfl) (by kernel_rfl) (fun _ _ _ h => h) ⟨HS.one.box.cell 0, HS.one.box.cell 1, HS.one.box.cell 2, HS.one.box.cell 3, HS.one.box.cell 4, HS.one.box.cell 5, HS.one.box.cell 6, HS.one.box.cell 7, HS.one.box.cell 8, HS.two.box.cell 0, HS.two.box.cell 1, HS.two.box.cell 2, HS.two.box.cell 3, HS.two.box.cell 4, HS.two.box.cell 5, HS.two.box.cell 6, HS.two.box.cell 7, HS.two.box.cell 8, HS⟩ _ (fun W hW => _) _
  rotate_left
  focus (go_simp; done)
  focus (obtain ⟨k1, k2, k3, k4, k5, k6, k7, k8, k9, k10, k11, k12, k13, k14, k15, k16, k17, k18, X9⟩ := hW; go_simp; first | done | (with_reducible rfl))
  simp only [Act.put, List.getElem_toArray, List.getElem_cons_succ, List.getElem_cons_zero, List.setIfInBounds_toArray, List.set_cons_zero, List.set_cons_succ]
  refine' stage_take (i := 15) _ rfl (by kernel_rfl) (by kernel_rfl) (by kernel_rfl) (by kernel_rfl) (fun _ _ _ h => h) ⟨HS.one.box.cell 0, HS.one.box.cell 1, HS.one.box.cell 2, HS.one.box.cell 3, HS.one.box.cell 4, HS.one.box.cell 5, HS.one.box.cell 6, HS.one.box.cell 7, HS.one.box.cell 8, HS.two.box.cell 0, HS.two.box.cell 1, HS.two.box.cell 2, HS.two.box.cell 3, HS.two.box.cell 4, HS.two.box.cell 5, HS.two.box.cell 6, HS.two.box.cell 7, HS.two.box.cell 8, HS⟩ _ (fun W hW => _) _
  rotate_left
  focus (go_simp; done)
  focus (obtain ⟨k1, k2, k3, k4, k5, k6, k7, k8, k9, k10, k11, k12, k13, k14, k15, k16, k17, k18, X9⟩ := hW; go_simp; first | done | (with_reducible rfl))
  simp only [Act.put, List.getElem_toArray, List.getElem_cons_succ, List.getElem_cons_zero, List.setIfInBounds_toArray, List.set_cons_zero, List.set_cons_succ]
  refine' stage_take (i := 16) _ rfl (by kernel_rfl) (by kernel_rfl) (by kernel_rfl) (by kernel_rfl) (fun _ _ _ h => h) ⟨HS.one.box.cell 0, HS.one.box.cell 1, HS.one.box.cell 2, HS.one.box.cell 3, HS.one.box.cell 4, HS.one.box.cell 5, HS.one.box.cell 6, HS.one.box.cell 7, HS.one.box.cell 8, HS.two.box.cell 0, HS.two.box.cell 1, HS.two.box.cell 2, HS.two.box.cell 3, HS.two.box.cell 4, HS.two.box.cell 5, HS.two.box.cell 6, HS.two.box.cell 7, HS.two.box.cell 8, HS⟩ _ (fun W hW => _) _
  rotate_left
  focus (go_simp; done)
  focus (obtain ⟨k1, k2, k3, k4, k5, k6, k7, k8, k9, k10, k11, k12, k13, k14, k15, k16, k17, k18, X9⟩ := hW; go_simp; first | done | (with_reducible rfl))
  simp only [Act.put, List.getElem_toArray, List.getElem_cons_succ, List.getElem_cons_zero, List.setIfInBounds_toArray, List.set_cons_zero, List.set_cons_succ]
  refine' stage_take (i := 17) _ rfl (by kernel_rfl) (by kernel_rfl) (by kernel_rfl) (by kernel_rfl) (fun _ _ _ h => h) ⟨HS.one.box.cell 0, HS.one.box.cell 1, HS.one.box.cell 2, HS.one.box.cell 3, HS.one.box.cell 4, HS.one.box.cell 5, HS.one.box.cell 6, HS.one.box.cell 7, HS.one.box.cell 8, HS.two.box.cell 0, HS.two.box.cell 1, HS.two.box.cell 2, HS.two.box.cell 3, HS.two.box.cell 4, HS.two.box.cell 5, HS.two.box.cell 6, HS.two.box.cell 7, HS.two.box.cell 8, HS⟩ _ (fun W hW => _) _
  rotate_left
  focus (go_simp; done)
  focus (obtain ⟨k1, k2, k3, k4, k5, k6, k7, k8, k9, k10, k11, k12, k13, k14, k15, k16, k17, k18, X9⟩ := hW; go_simp; first | done | (with_reducible rfl))
  simp only [Act.put, List.getElem_toArray, List.getElem_cons_succ, List.getElem_cons_zero, List.setIfInBounds_toArray, List.set_cons_zero, List.set_cons_succ]
  refine' stage_take (i := 18) _ rfl (by kernel_rfl) (by kernel_rfl) (by kernel_rfl) (by kernel_rfl) (fun _ _ _ h => h) ⟨HS.one.box.cell 0, HS.one.box.cell 1, HS.one.box.cell 2, HS.one.box.cell 3, HS.one.box.cell 4, HS.one.box.cell 5, HS.one.box.cell 6, HS.one.box.cell 7, HS.one.box.cell 8, HS.two.box.cell 0, HS.two.box.cell 1, HS.two.box.cell 2, HS.two.box.cell 3, HS.two.box.cell 4, HS.two.box.cell 5, HS.two.box.cell 6, HS.two.box.cell 7, HS.two.box.cell 8, HS⟩ _ (fun W hW => _) _
  rotate_left
  focus (go_simp; done)
  focus (obtain ⟨k1, k2, k3, k4, k5, k6, k7, k8, k9, k10, k11, k12, k13, k14, k15, k16, k17, k18, X9⟩ := hW; go_simp; first | done | (with_reducible rfl))
  simp only [Act.put, List.getElem_toArray, List.getElem_cons_succ, List.getElem_cons_zero, List.setIfInBounds_toArray, List.set_cons_zero, List.set_cons_succ]
  refine stage_only (i := 19) rfl (by kernel_rfl) ?_ (fun K hK => ?_)
  focus (go_simp; done)
  go_simp
  go_at_call 12
  refine (C4.out _ HS).mono ?_
  rintro e x19 ⟨s19, u19, rfl, own19, y19⟩
  go_simp
  replace HS := HS.keep y19
  refine hK.out _ _ (fun _ => ⟨HS.one.box.cell 0, HS.one.box.cell 1, HS.one.box.cell 2, HS.one.box.cell 3, HS.one.box.cell 4, HS.one.box.cell 5, HS.one.box.cell 6, HS.one.box.cell 7, HS.one.box.cell 8, HS.two.box.cell 0, HS.two.box.cell 1, HS.two.box.cell 2, HS.two.box.cell 3, HS.two.box.cell 4, HS.two.box.cell 5, HS.two.box.cell 6, HS.two.box.cell 7, HS.two.box.cell 8, HS⟩) ?_
  clear hK K
  try simp only [Act.put, List.getElem_toArray, List.getElem_cons_succ, List.getElem_cons_zero, List.setIfInBounds_toArray, List.set_cons_zero, List.set_cons_succ]
  refine stage_only (i := 20) rfl (by kernel_rfl) ?_ (fun K hK => ?_)
  focus (go_simp; done)
  go_simp
  go_at_call 19
  refine (C5.out _ HS _ _ own19.at_).mono ?_
  rintro e x20 ⟨rfl, y20⟩
  go_simp
  replace HS := HS.keep y20
  refine hK.out _ _ (fun _ => ⟨HS.one.box.cell 0, HS.one.box.cell 1, HS.one.box.cell 2, HS.one.box.cell 3, HS.one.box.cell 4, HS.one.box.cell 5, HS.one.box.cell 6, HS.one.box.cell 7, HS.one.box.cell 8, HS.two.box.cell 0, HS.two.box.cell 1, HS.two.box.cell 2, HS.two.box.cell 3, HS.two.box.cell 4, HS.two.box.cell 5, HS.two.box.cell 6, HS.two.box.cell 7, HS.two.box.cell 8, HS⟩) ?_
  clear hK K
  try simp only [Act.put, List.getElem_toArray, List.getElem_cons_succ, List.getElem_cons_zero, List.setIfInBounds_toArray, List.set_cons_zero, List.set_cons_succ]
  refine' stage_take (i := 21) _ rfl (by kernel_rfl) (by kernel_rfl) (by kernel_rfl) (by kernel_rfl) (fun _ _ _ h => h) ⟨HS.one.box.cell 0, HS.one.box.cell 1, HS.one.box.cell 2, HS.one.box.cell 3, HS.one.box.cell 4, HS.one.box.cell 5, HS.one.box.cell 6, HS.one.box.cell 7, HS.one.box.cell 8, HS.two.box.cell 0, HS.two.box.cell 1, HS.two.box.cell 2, HS.two.box.cell 3, HS.two.box.cell 4, HS.two.box.cell 5, HS.two.box.cell 6, HS.two.box.cell 7, HS.two.box.cell 8, HS⟩ _ (fun W hW => _) _
  rotate_left
  focus (go_simp; done)
  focus (obtain ⟨k1, k2, k3, k4, k5, k6, k7, k8, k9, k10, k11, k12, k13, k14, k15, k16, k17, k18, X9⟩ := hW; go_simp; first | done | (with_reducible rfl))
  simp only [Act.put, List.getElem_toArray, List.getElem_cons_succ, List.getElem_cons_zero, List.setIfInBounds_toArray, List.set_cons_zero, List.set_cons_succ]
  refine' stage_take (i := 22) _ rfl (by kernel_rfl) (by kernel_rfl) (by kernel_rfl) (by kernel_rfl) (fun _ _ _ h => h) ⟨HS.one.box.cell 0, HS.one.box.cell 1, HS.one.box.cell 2, HS.one.box.cell 3, HS.one.box.cell 4, HS.one.box.cell 5, HS.one.box.cell 6, HS.one.box.cell 7, HS.one.box.cell 8, HS.two.box.cell 0, HS.two.box.cell 1, HS.two.box.cell 2, HS.two.box.cell 3, HS.two.box.cell 4, HS.two.box.cell 5, HS.two.box.cell 6, HS.two.box.cell 7, HS.two.box.cell 8, HS⟩ _ (fun W hW => _) _
  rotate_left
  focus (go_simp; done)
  focus (obtain ⟨k1, k2, k3, k4, k5, k6, k7, k8, k9, k10, k11, k12, k13, k14, k15, k16, k17, k18, X9⟩ := hW; go_simp; first | done | (with_reducible rfl))
  simp only [Act.put, List.getElem_toArray, List.getElem_cons_succ, List.getElem_cons_zero, List.setIfInBounds_toArray, List.set_cons_zero, List.set_cons_succ]
  refine' stage_take (i := 23) _ rfl (by kernel_rfl) (by kernel_rfl) (by kernel_rfl) (by kernel_rfl) (fun _ _ _ h => h) ⟨HS.one.box.cell 0, HS.one.box.cell 1, HS.one.box.cell 2, HS.one.box.cell 3, HS.one.box.cell 4, HS.one.box.cell 5, HS.one.box.cell 6, HS.one.box.cell 7, HS.one.box.cell 8, HS.two.box.cell 0, HS.two.box.cell 1, HS.two.box.cell 2, HS.two.box.cell 3, HS.two.box.cell 4, HS.two.box.cell 5, HS.two.box.cell 6, HS.two.box.cell 7, HS.two.box.cell 8, HS⟩ _ (fun W hW => _) _
  rotate_left
  focus (go_simp; done)
  focus (obtain ⟨k1, k2, k3, k4, k5, k6, k7, k8, k9, k10, k11, k12, k13, k14, k15, k16, k17, k18, X9⟩ := hW; go_simp; first | done | (with_reducible rfl))
  simp only [Act.put, List.getElem_toArray, List.getElem_cons_succ, List.getElem_cons_zero, List.setIfInBounds_toArray, List.set_cons_zero, List.set_cons_succ]
  refine' stage_take (i := 25) _ rfl (by kernel_rfl) (by kernel_rfl) (by kernel_rfl) (by kernel_rfl) (fun _ _ _ h => h) ⟨HS.one.box.cell 0, HS.one.box.cell 1, HS.one.box.cell 2, HS.one.box.cell 3, HS.one.box.cell 4, HS.one.box.cell 5, HS.one.box.cell 6, HS.one.box.cell 7, HS.one.box.cell 8, HS.two.box.cell 0, HS.two.box.cell 1, HS.two.box.cell 2, HS.two.box.cell 3, HS.two.box.cell 4, HS.two.box.cell 5, HS.two.box.cell 6, HS.two.box.cell 7, HS.two.box.cell 8, HS⟩ _ (fun W hW => _) _
  rotate_left
  focus (go_simp; done)
  focus (obtain ⟨k1, k2, k3, k4, k5, k6, k7, k8, k9, k10, k11, k12, k13, k14, k15, k16, k17, k18, X9⟩ := hW; go_simp; first | done | (with_reducible rfl))
  simp only [Act.put, List.getElem_toArray, List.getElem_cons_succ, List.getElem_cons_zero, List.setIfInBounds_toArray, List.set_cons_zero, List.set_cons_succ]
  refine stage_only (i := 24) rfl (by kernel_rfl) ?_ (fun K hK => ?_)
  focus (go_simp; done)
  go_simp
  go_at_call 12
  refine (C6.out _ HS).mono ?_
  rintro e x24 ⟨s24, u24, rfl, own24, y24⟩
  go_simp
  replace HS := HS.keep y24
  refine hK.out _ _ (fun _ => ⟨HS.one.box.cell 0, HS.one.box.cell 1, HS.one.box.cell 2, HS.one.box.cell 3, HS.one.box.cell 4, HS.one.box.cell 5, HS.one.box.cell 6, HS.one.box.cell 7, HS.one.box.cell 8, HS.two.box.cell 0, HS.two.box.cell 1, HS.two.box.cell 2, HS.two.box.cell 3, HS.two.box.cell 4, HS.two.box.cell 5, HS.two.box.cell 6, HS.two.box.cell 7, HS.two.box.cell 8, HS⟩) ?_
  clear hK K
  try simp only [Act.put, List.getElem_toArray, List.getElem_cons_succ, List.getElem_cons_zero, List.setIfInBounds_toArray, List.set_cons_zero, List.set_cons_succ]
  refine stage_only (i := 26) rfl (by kernel_rfl) ?_ (fun K hK => ?_)
  focus (go_simp; done)
  go_simp
  go_at_call 19
  refine (C7.out _ HS _ _ own24.at_).mono ?_
  rintro e x26 ⟨rfl, y26⟩
  go_simp
  replace HS := HS.keep y26
  refine hK.out _ _ (fun _ => ⟨HS.one.box.cell 0, HS.one.box.cell 1, HS.one.box.cell 2, HS.one.box.cell 3, HS.one.box.cell 4, HS.one.box.cell 5, HS.one.box.cell 6, HS.one.box.cell 7, HS.one.box.cell 8, HS.two.box.cell 0, HS.two.box.cell 1, HS.two.box.cell 2, HS.two.box.cell 3, HS.two.box.cell 4, HS.two.box.cell 5, HS.two.box.cell 6, HS.two.box.cell 7, HS.two.box.cell 8, HS⟩) ?_
  clear hK K
  try simp only [Act.put, List.getElem_toArray, List.getElem_cons_succ, List.getElem_cons_zero, List.setIfInBounds_toArray, List.set_cons_zero, List.set_cons_succ]
  refine' stage_take (i := 27) _ rfl (by kernel_rfl) (by kernel_rfl) (by kernel_rfl) (by kernel_rfl) (fun _ _ _ h => h) ⟨HS.one.box.cell 0, HS.one.box.cell 1, HS.one.box.cell 2, HS.one.box.cell 3, HS.one.box.cell 4, HS.one.box.cell 5, HS.one.box.cell 6, HS.one.box.cell 7, HS.one.box.cell 8, HS.two.box.cell 0, HS.two.box.cell 1, HS.two.box.cell 2, HS.two.box.cell 3, HS.two.box.cell 4, HS.two.box.cell 5, HS.two.box.cell 6, HS.two.box.cell 7, HS.two.box.cell 8, HS⟩ _ (fun W hW => _) _
  rotate_left
  focus (go_simp; done)
  focus (obtain ⟨k1, k2, k3, k4, k5, k6, k7, k8, k9, k10, k11, k12, k13, k14, k15, k16, k17, k18, X9⟩ := hW; go_simp; first | done | (with_reducible rfl))
  simp only [Act.put, List.getElem_toArray, List.getElem_cons_succ, List.getElem_cons_zero, List.setIfInBounds_toArray, List.set_cons_zero, List.set_cons_succ]
  refine' stage_take (i := 28) _ rfl (by kernel_rfl) (by kernel_rfl) (by kernel_rfl) (by kernel_rfl) (fun _ _ _ h => h) ⟨HS.one.box.cell 0, HS.one.box.cell 1, HS.one.box.cell 2, HS.one.box.cell 3, HS.one.box.cell 4, HS.one.box.cell 5, HS.one.box.cell 6, HS.one.box.cell 7, HS.one.box.cell 8, HS.two.box.cell 0, HS.two.box.cell 1, HS.two.box.cell 2, HS.two.box.cell 3, HS.two.box.cell 4, HS.two.box.cell 5, HS.two.box.cell 6, HS.two.box.cell 7, HS.two.box.cell 8, HS⟩ _ (fun W hW => _) _
  rotate_left
  focus (go_simp; done)
  focus (obtain ⟨k1, k2, k3, k4, k5, k6, k7, k8, k9, k10, k11, k12, k13, k14, k15, k16, k17, k18, X9⟩ := hW; go_simp; first | done | (with_reducible rfl))
  simp only [Act.put, List.getElem_toArray, List.getElem_cons_succ, List.getElem_cons_zero, List.setIfInBounds_toArray, List.set_cons_zero, List.set_cons_succ]
  refine stage_end (by kernel_rfl) ?_
  have XE := Lib.hid HS
  clear HS
  go_wp2_with fail
  go_ret
  exact ⟨rfl, XE.out.one.low⟩

set_option maxRecDepth 100000 in
theorem opened (H : Type) (enc : TypeId × Value → H) (W : World) (base : Nat) (args : Array Value) (ds : List (DataW H)) (p : List MemPlace)
    (hval : ∀ (j : Nat) t v, Tryd.f6.params[j]? = some t → args[j]? = some v → Value.okWide Tryd.prog W .any base t v)
    (hA : DataW.TrodAll enc Tryd.prog W 0 (fun _ => true) true Tryd.f6.params.toList args.toList ds p)
    (hr : ∀ x ∈ DataW.weightsEach Tryd.prog Tryd.f6.params.toList ds, x ≤ reachBytes)
    (hL : laidMetH Tryd.prog Rows.ledgerSamesRow.laid W) :
    Calls Tryd.prog 6 args W fun e W' => e = .returned (.bool true) ∧ Below W.heap.size W W' := by
  rw [Tryd.params6] at hA hval hr
  have _ := hL
  obtain ⟨v0, vs0, d0, ds0, p0, q0, hargs, rfl, rfl, h0, r0⟩ := trodAll_cons hA
  obtain ⟨v1, vs1, d1, ds1, p1, q1, rfl, rfl, rfl, h1, r1⟩ := trodAll_cons r0
  obtain ⟨rfl, rfl, rfl⟩ := trodAll_nil r1
  obtain rfl : args = #[v0, v1] := by cases args; simp_all
  obtain ⟨s, l, vs, rfl, hat, hok, hb⟩ := open_ledger2 (hval 0 37 v0 rfl rfl) h0 (fun x hx => hr x (by simp only [DataW.weightsEach, List.mem_append]; exact .inl hx))
  obtain ⟨r, m, us, rfl, hat2, hok2, hb2⟩ := open_ledger2 (hval 1 37 v1 rfl rfl) h1 (fun x hx => hr x (by simp only [DataW.weightsEach, List.mem_append]; exact .inr (.inl hx)))
  exact walk s l vs r m us W hat hok hb hat2 hok2 hb2
end Go.Proofs.YtmimhimlgbklpaaDoor.ledgerSames
