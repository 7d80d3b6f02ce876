/- LedgerPays: the walk, and the step from the law's arguments to it. Written by genpays.py. -/
import Derived.Test.YtmimhimlgbklpaaDoorLedFit
set_option linter.unusedSimpArgs false
set_option linter.unusedVariables false
namespace Go.Proofs.YtmimhimlgbklpaaDoor.ledgerPays
open Go.ChangeShapes Go.WideShapes Go.ChangeAt Go.RowKit Go.Proofs.YtmimhimlgbklpaaDoor.Bas Go.Proofs.YtmimhimlgbklpaaDoor.LedM Go.Proofs.YtmimhimlgbklpaaDoor.LedW

/-- the law's boxes: the ledger, the two pairs -/
structure PB (w W : World) (s : Lists) (l : Led) (vs : List (Value × Acc)) (cur amount fr to_ : Int) : Prop where
  low : Below w.heap.size w W
  at_ : LedAt W s l vs
  b1 : Box W w.heap.size 37 #[.int .i64 l.day, .slice s.a1 l.curs.length s.c1, .slice s.a2 l.unders.length s.c2, .slice s.a3 l.instrs.length s.c3, .slice s.a4 l.accts.length s.c4, .slice s.a5 l.poss.length s.c5, .slice s.a6 l.orders.length s.c6, .slice s.a7 l.avail.length s.c7, .slice s.a8 l.locs.length s.c8]
  b2 : Box W (w.heap.size + 1) 46 #[.int .i64 cur, .int .i64 amount]
  b3 : Box W (w.heap.size + 2) 46 #[.int .i64 fr, .int .i64 to_]
theorem PB.keep {w A B : World} {s : Lists} {l : Led} {vs : List (Value × Acc)} {cur amount fr to_ : Int} (h : PB w A s l vs cur amount fr to_) (b : Below A.heap.size A B) : PB w B s l vs cur amount fr to_ := ⟨h.low.trans (b.mono h.low.size), h.at_.keep b, h.b1.keep b, h.b2.keep b, h.b3.keep b⟩
theorem PB.new (w : World) (s : Lists) (l : Led) (vs : List (Value × Acc)) (cur amount fr to_ : Int) (hat : LedAt w s l vs) : PB w (((w.alloc (.cells #[.int .i64 l.day, .slice s.a1 l.curs.length s.c1, .slice s.a2 l.unders.length s.c2, .slice s.a3 l.instrs.length s.c3, .slice s.a4 l.accts.length s.c4, .slice s.a5 l.poss.length s.c5, .slice s.a6 l.orders.length s.c6, .slice s.a7 l.avail.length s.c7, .slice s.a8 l.locs.length s.c8] 37)).alloc (.cells #[.int .i64 cur, .int .i64 amount] 46)).alloc (.cells #[.int .i64 fr, .int .i64 to_] 46)) s l vs cur amount fr to_ := by
  have a1 := Box.new w 37 #[.int .i64 l.day, .slice s.a1 l.curs.length s.c1, .slice s.a2 l.unders.length s.c2, .slice s.a3 l.instrs.length s.c3, .slice s.a4 l.accts.length s.c4, .slice s.a5 l.poss.length s.c5, .slice s.a6 l.orders.length s.c6, .slice s.a7 l.avail.length s.c7, .slice s.a8 l.locs.length s.c8]
  have a2 := Box.new (w.alloc (.cells #[.int .i64 l.day, .slice s.a1 l.curs.length s.c1, .slice s.a2 l.unders.length s.c2, .slice s.a3 l.instrs.length s.c3, .slice s.a4 l.accts.length s.c4, .slice s.a5 l.poss.length s.c5, .slice s.a6 l.orders.length s.c6, .slice s.a7 l.avail.length s.c7, .slice s.a8 l.locs.length s.c8] 37)) 46 #[.int .i64 cur, .int .i64 amount]
  have a3 := Box.new ((w.alloc (.cells #[.int .i64 l.day, .slice s.a1 l.curs.length s.c1, .slice s.a2 l.unders.length s.c2, .slice s.a3 l.instrs.length s.c3, .slice s.a4 l.accts.length s.c4, .slice s.a5 l.poss.length s.c5, .slice s.a6 l.orders.length s.c6, .slice s.a7 l.avail.length s.c7, .slice s.a8 l.locs.length s.c8] 37)).alloc (.cells #[.int .i64 cur, .int .i64 amount] 46)) 46 #[.int .i64 fr, .int .i64 to_]
  rw [World.size_alloc] at a2
  rw [World.size_alloc, World.size_alloc] at a3
  have L := (((Below.refl w.heap.size w).alloc (Nat.le_refl _) (.cells #[.int .i64 l.day, .slice s.a1 l.curs.length s.c1, .slice s.a2 l.unders.length s.c2, .slice s.a3 l.instrs.length s.c3, .slice s.a4 l.accts.length s.c4, .slice s.a5 l.poss.length s.c5, .slice s.a6 l.orders.length s.c6, .slice s.a7 l.avail.length s.c7, .slice s.a8 l.locs.length s.c8] 37)).alloc (by simp) (.cells #[.int .i64 cur, .int .i64 amount] 46)).alloc (by simp; omega) (.cells #[.int .i64 fr, .int .i64 to_] 46)
  exact ⟨L, hat.keep L, (a1.alloc _).alloc _, a2.alloc _, a3⟩
set_option maxHeartbeats 4000000 in
set_option maxRecDepth 100000 in
theorem walk (s : Lists) (l : Led) (vs : List (Value × Acc)) (cur amount fr to_ : Int) (w : World) (hat : LedAt w s l vs) (hok : LedOk w l vs s) (hb : LedBig l) (ia : FixpW.I64 amount) :
    Calls Tryd.prog 5 #[ledV s l, .agg #[.int .i64 cur, .int .i64 amount], .agg #[.int .i64 fr, .int .i64 to_]] w fun e w' => e = .returned (.bool true) ∧ Below w.heap.size w w' := by
  have X := PB.new w s l vs cur amount fr to_ hat
  have D0 := Lib.hid (fun W => lwakes_calls W)
  have DW := Lib.hid (fun W h => wide_calls s l vs W h hb (cash_big hok hat))
  have HF := Lib.hid (fun h => fit_of hok hat h)
  clear hat hok hb
  unfold ledV at DW ⊢
  go_enter Tryd.func5, Tryd.ntmps5
  go_upto_region 1 with fail
  change Code.wp _ _ _ _ (((w.alloc (.cells #[.int .i64 l.day, .slice s.a1 l.curs.length s.c1, .slice s.a2 l.unders.length s.c2, .slice s.a3 l.instrs.length s.c3, .slice s.a4 l.accts.length s.c4, .slice s.a5 l.poss.length s.c5, .slice s.a6 l.orders.length s.c6, .slice s.a7 l.avail.length s.c7, .slice s.a8 l.locs.length s.c8] 37)).alloc (.cells #[.int .i64 cur, .int .i64 amount] 46)).alloc (.cells #[.int .i64 fr, .int .i64 to_] 46))
  generalize ((w.alloc (.cells #[.int .i64 l.day, .slice s.a1 l.curs.length s.c1, .slice s.a2 l.unders.length s.c2, .slice s.a3 l.instrs.length s.c3, .slice s.a4 l.accts.length s.c4, .slice s.a5 l.poss.length s.c5, .slice s.a6 l.orders.length s.c6, .slice s.a7 l.avail.length s.c7, .slice s.a8 l.locs.length s.c8] 37)).alloc (.cells #[.int .i64 cur, .int .i64 amount] 46)).alloc (.cells #[.int .i64 fr, .int .i64 to_] 46) = w0 at *
  cases hw : wideF l with
  | true =>
    rw [hw] at DW
    have XH := Lib.hid X
    clear X hw HF
    go_wp2_with (first | (go_at_call 8; refine (D0.out _).mono ?_; rintro e w1 ⟨rfl, b1⟩; have X1 := XH.out.keep b1; have k0 : w1.cell? ⟨w.heap.size, 0, none⟩ = some (.int .i64 l.day) := X1.b1.cell 0; have k1 : w1.cell? ⟨w.heap.size, 1, none⟩ = some (.slice s.a1 l.curs.length s.c1) := X1.b1.cell 1; have k2 : w1.cell? ⟨w.heap.size, 2, none⟩ = some (.slice s.a2 l.unders.length s.c2) := X1.b1.cell 2; have k3 : w1.cell? ⟨w.heap.size, 3, none⟩ = some (.slice s.a3 l.instrs.length s.c3) := X1.b1.cell 3; have k4 : w1.cell? ⟨w.heap.size, 4, none⟩ = some (.slice s.a4 l.accts.length s.c4) := X1.b1.cell 4; have k5 : w1.cell? ⟨w.heap.size, 5, none⟩ = some (.slice s.a5 l.poss.length s.c5) := X1.b1.cell 5; have k6 : w1.cell? ⟨w.heap.size, 6, none⟩ = some (.slice s.a6 l.orders.length s.c6) := X1.b1.cell 6; have k7 : w1.cell? ⟨w.heap.size, 7, none⟩ = some (.slice s.a7 l.avail.length s.c7) := X1.b1.cell 7; have k8 : w1.cell? ⟨w.heap.size, 8, none⟩ = some (.slice s.a8 l.locs.length s.c8) := X1.b1.cell 8) | (go_at_call 10; refine (DW.out _ X1.at_).mono ?_; rintro e w2 ⟨rfl, b2⟩))
    go_ret
    exact ⟨rfl, X1.low.trans (b2.mono X1.low.size)⟩
  | false =>
  rw [hw] at DW
  have hf := HF.out hw
  have HP := Lib.hid (fun W h => pay_calls s l vs cur amount fr to_ W h hf ia)
  have HRP := Lib.hid (fun W h => rpay_calls s l vs cur amount fr to_ W h hf)
  have HT := Lib.hid (fun W h => total_calls s l vs cur W h hf)
  have HRT := Lib.hid (fun W h => rtotal_calls s l vs cur W h hf)
  have HFit := Lib.hid hf
  have XH := Lib.hid X
  unfold ledV at HP HRP HT HRT
  clear X hw HF hf
  go_upto_region 5 with (first | (go_at_call 8; refine (D0.out _).mono ?_; rintro e w1 ⟨rfl, b1⟩; have X1 := Lib.hid (XH.out.keep b1); have k0 : w1.cell? ⟨w.heap.size, 0, none⟩ = some (.int .i64 l.day) := X1.out.b1.cell 0; have k1 : w1.cell? ⟨w.heap.size, 1, none⟩ = some (.slice s.a1 l.curs.length s.c1) := X1.out.b1.cell 1; have k2 : w1.cell? ⟨w.heap.size, 2, none⟩ = some (.slice s.a2 l.unders.length s.c2) := X1.out.b1.cell 2; have k3 : w1.cell? ⟨w.heap.size, 3, none⟩ = some (.slice s.a3 l.instrs.length s.c3) := X1.out.b1.cell 3; have k4 : w1.cell? ⟨w.heap.size, 4, none⟩ = some (.slice s.a4 l.accts.length s.c4) := X1.out.b1.cell 4; have k5 : w1.cell? ⟨w.heap.size, 5, none⟩ = some (.slice s.a5 l.poss.length s.c5) := X1.out.b1.cell 5; have k6 : w1.cell? ⟨w.heap.size, 6, none⟩ = some (.slice s.a6 l.orders.length s.c6) := X1.out.b1.cell 6; have k7 : w1.cell? ⟨w.heap.size, 7, none⟩ = some (.slice s.a7 l.avail.length s.c7) := X1.out.b1.cell 7; have k8 : w1.cell? ⟨w.heap.size, 8, none⟩ = some (.slice s.a8 l.locs.length s.c8) := X1.out.b1.cell 8) | (go_at_call 10; refine (DW.out _ X1.out.at_).mono ?_; rintro e w2 ⟨rfl, b2⟩; have X2 := Lib.hid (X1.out.keep b2)))
  clear k0 k1 k2 k3 k4 k5 k6 k7 k8 XH X1 b1 b2 D0 DW
  have k0 : w2.cell? ⟨w.heap.size, 0, none⟩ = some (.int .i64 l.day) := X2.out.b1.cell 0
  have k1 : w2.cell? ⟨w.heap.size, 1, none⟩ = some (.slice s.a1 l.curs.length s.c1) := X2.out.b1.cell 1
  have k2 : w2.cell? ⟨w.heap.size, 2, none⟩ = some (.slice s.a2 l.unders.length s.c2) := X2.out.b1.cell 2
  have k3 : w2.cell? ⟨w.heap.size, 3, none⟩ = some (.slice s.a3 l.instrs.length s.c3) := X2.out.b1.cell 3
  have k4 : w2.cell? ⟨w.heap.size, 4, none⟩ = some (.slice s.a4 l.accts.length s.c4) := X2.out.b1.cell 4
  have k5 : w2.cell? ⟨w.heap.size, 5, none⟩ = some (.slice s.a5 l.poss.length s.c5) := X2.out.b1.cell 5
  have k6 : w2.cell? ⟨w.heap.size, 6, none⟩ = some (.slice s.a6 l.orders.length s.c6) := X2.out.b1.cell 6
  have k7 : w2.cell? ⟨w.heap.size, 7, none⟩ = some (.slice s.a7 l.avail.length s.c7) := X2.out.b1.cell 7
  have k8 : w2.cell? ⟨w.heap.size, 8, none⟩ = some (.slice s.a8 l.locs.length s.c8) := X2.out.b1.cell 8
  have p0 : w2.cell? ⟨w.heap.size + 1, 0, none⟩ = some (.int .i64 cur) := X2.out.b2.cell 0
  have p1 : w2.cell? ⟨w.heap.size + 1, 1, none⟩ = some (.int .i64 amount) := X2.out.b2.cell 1
  have q0 : w2.cell? ⟨w.heap.size + 2, 0, none⟩ = some (.int .i64 fr) := X2.out.b3.cell 0
  have q1 : w2.cell? ⟨w.heap.size + 2, 1, none⟩ = some (.int .i64 to_) := X2.out.b3.cell 1
  go_upto_region 6 with (go_at_call 13; refine (HP.out _ X2.out.at_).mono ?_; rintro e w3 ⟨s3, l3, us3, er, rfl, hp3, own3, b3⟩)
  clear k0 k1 k2 k3 k4 k5 k6 k7 k8 p0 p1 q0 q1
  have X4 := Lib.hid ((X2.out.keep b3).keep ((Below.refl _ _).alloc (Nat.le_refl _) (.cells #[.int .i64 l3.day, .slice s3.a1 l3.curs.length s3.c1, .slice s3.a2 l3.unders.length s3.c2, .slice s3.a3 l3.instrs.length s3.c3, .slice s3.a4 l3.accts.length s3.c4, .slice s3.a5 l3.poss.length s3.c5, .slice s3.a6 l3.orders.length s3.c6, .slice s3.a7 l3.avail.length s3.c7, .slice s3.a8 l3.locs.length s3.c8] 37)))
  have B4 := Lib.hid (Box.new w3 37 #[.int .i64 l3.day, .slice s3.a1 l3.curs.length s3.c1, .slice s3.a2 l3.unders.length s3.c2, .slice s3.a3 l3.instrs.length s3.c3, .slice s3.a4 l3.accts.length s3.c4, .slice s3.a5 l3.poss.length s3.c5, .slice s3.a6 l3.orders.length s3.c6, .slice s3.a7 l3.avail.length s3.c7, .slice s3.a8 l3.locs.length s3.c8])
  have O4 := Lib.hid (own3.below ((Below.refl _ _).alloc (Nat.le_refl _) (.cells #[.int .i64 l3.day, .slice s3.a1 l3.curs.length s3.c1, .slice s3.a2 l3.unders.length s3.c2, .slice s3.a3 l3.instrs.length s3.c3, .slice s3.a4 l3.accts.length s3.c4, .slice s3.a5 l3.poss.length s3.c5, .slice s3.a6 l3.orders.length s3.c6, .slice s3.a7 l3.avail.length s3.c7, .slice s3.a8 l3.locs.length s3.c8] 37)))
  have hfit3 : LedFit l3 := pay_fit HFit.out hp3
  clear own3 b3 X2
  change Code.wp _ _ _ _ (w3.alloc (.cells #[.int .i64 l3.day, .slice s3.a1 l3.curs.length s3.c1, .slice s3.a2 l3.unders.length s3.c2, .slice s3.a3 l3.instrs.length s3.c3, .slice s3.a4 l3.accts.length s3.c4, .slice s3.a5 l3.poss.length s3.c5, .slice s3.a6 l3.orders.length s3.c6, .slice s3.a7 l3.avail.length s3.c7, .slice s3.a8 l3.locs.length s3.c8] 37))
  generalize w3.alloc (.cells #[.int .i64 l3.day, .slice s3.a1 l3.curs.length s3.c1, .slice s3.a2 l3.unders.length s3.c2, .slice s3.a3 l3.instrs.length s3.c3, .slice s3.a4 l3.accts.length s3.c4, .slice s3.a5 l3.poss.length s3.c5, .slice s3.a6 l3.orders.length s3.c6, .slice s3.a7 l3.avail.length s3.c7, .slice s3.a8 l3.locs.length s3.c8] 37) = w4 at *
  generalize w3.heap.size = g7 at *
  have k0 : w4.cell? ⟨w.heap.size, 0, none⟩ = some (.int .i64 l.day) := X4.out.b1.cell 0
  have k1 : w4.cell? ⟨w.heap.size, 1, none⟩ = some (.slice s.a1 l.curs.length s.c1) := X4.out.b1.cell 1
  have k2 : w4.cell? ⟨w.heap.size, 2, none⟩ = some (.slice s.a2 l.unders.length s.c2) := X4.out.b1.cell 2
  have k3 : w4.cell? ⟨w.heap.size, 3, none⟩ = some (.slice s.a3 l.instrs.length s.c3) := X4.out.b1.cell 3
  have k4 : w4.cell? ⟨w.heap.size, 4, none⟩ = some (.slice s.a4 l.accts.length s.c4) := X4.out.b1.cell 4
  have k5 : w4.cell? ⟨w.heap.size, 5, none⟩ = some (.slice s.a5 l.poss.length s.c5) := X4.out.b1.cell 5
  have k6 : w4.cell? ⟨w.heap.size, 6, none⟩ = some (.slice s.a6 l.orders.length s.c6) := X4.out.b1.cell 6
  have k7 : w4.cell? ⟨w.heap.size, 7, none⟩ = some (.slice s.a7 l.avail.length s.c7) := X4.out.b1.cell 7
  have k8 : w4.cell? ⟨w.heap.size, 8, none⟩ = some (.slice s.a8 l.locs.length s.c8) := X4.out.b1.cell 8
  have p0 : w4.cell? ⟨w.heap.size + 1, 0, none⟩ = some (.int .i64 cur) := X4.out.b2.cell 0
  have p1 : w4.cell? ⟨w.heap.size + 1, 1, none⟩ = some (.int .i64 amount) := X4.out.b2.cell 1
  have q0 : w4.cell? ⟨w.heap.size + 2, 0, none⟩ = some (.int .i64 fr) := X4.out.b3.cell 0
  have q1 : w4.cell? ⟨w.heap.size + 2, 1, none⟩ = some (.int .i64 to_) := X4.out.b3.cell 1
  go_upto_region 7 with (go_at_call 16; refine (HRP.out _ X4.out.at_).mono ?_; rintro e w5 ⟨s5, l5, us5, er5, rfl, hp5, own5, b5⟩)
  clear k0 k1 k2 k3 k4 k5 k6 k7 k8 p0 p1 q0 q1
  rw [hp3] at hp5
  cases hp5
  have X6 := Lib.hid ((X4.out.keep b5).keep ((Below.refl _ _).alloc (Nat.le_refl _) (.cells #[.int .i64 l3.day, .slice s5.a1 l3.curs.length s5.c1, .slice s5.a2 l3.unders.length s5.c2, .slice s5.a3 l3.instrs.length s5.c3, .slice s5.a4 l3.accts.length s5.c4, .slice s5.a5 l3.poss.length s5.c5, .slice s5.a6 l3.orders.length s5.c6, .slice s5.a7 l3.avail.length s5.c7, .slice s5.a8 l3.locs.length s5.c8] 37)))
  have B6 := Lib.hid ((B4.out.keep b5).alloc (.cells #[.int .i64 l3.day, .slice s5.a1 l3.curs.length s5.c1, .slice s5.a2 l3.unders.length s5.c2, .slice s5.a3 l3.instrs.length s5.c3, .slice s5.a4 l3.accts.length s5.c4, .slice s5.a5 l3.poss.length s5.c5, .slice s5.a6 l3.orders.length s5.c6, .slice s5.a7 l3.avail.length s5.c7, .slice s5.a8 l3.locs.length s5.c8] 37))
  have O6 := Lib.hid ((O4.out.below b5).below ((Below.refl _ _).alloc (Nat.le_refl _) (.cells #[.int .i64 l3.day, .slice s5.a1 l3.curs.length s5.c1, .slice s5.a2 l3.unders.length s5.c2, .slice s5.a3 l3.instrs.length s5.c3, .slice s5.a4 l3.accts.length s5.c4, .slice s5.a5 l3.poss.length s5.c5, .slice s5.a6 l3.orders.length s5.c6, .slice s5.a7 l3.avail.length s5.c7, .slice s5.a8 l3.locs.length s5.c8] 37)))
  have C6 := Lib.hid (Box.new w5 37 #[.int .i64 l3.day, .slice s5.a1 l3.curs.length s5.c1, .slice s5.a2 l3.unders.length s5.c2, .slice s5.a3 l3.instrs.length s5.c3, .slice s5.a4 l3.accts.length s5.c4, .slice s5.a5 l3.poss.length s5.c5, .slice s5.a6 l3.orders.length s5.c6, .slice s5.a7 l3.avail.length s5.c7, .slice s5.a8 l3.locs.length s5.c8])
  have Q6 := Lib.hid (own5.below ((Below.refl _ _).alloc (Nat.le_refl _) (.cells #[.int .i64 l3.day, .slice s5.a1 l3.curs.length s5.c1, .slice s5.a2 l3.unders.length s5.c2, .slice s5.a3 l3.instrs.length s5.c3, .slice s5.a4 l3.accts.length s5.c4, .slice s5.a5 l3.poss.length s5.c5, .slice s5.a6 l3.orders.length s5.c6, .slice s5.a7 l3.avail.length s5.c7, .slice s5.a8 l3.locs.length s5.c8] 37)))
  clear own5 b5 X4 B4 O4
  change Code.wp _ _ _ _ (w5.alloc (.cells #[.int .i64 l3.day, .slice s5.a1 l3.curs.length s5.c1, .slice s5.a2 l3.unders.length s5.c2, .slice s5.a3 l3.instrs.length s5.c3, .slice s5.a4 l3.accts.length s5.c4, .slice s5.a5 l3.poss.length s5.c5, .slice s5.a6 l3.orders.length s5.c6, .slice s5.a7 l3.avail.length s5.c7, .slice s5.a8 l3.locs.length s5.c8] 37))
  generalize w5.alloc (.cells #[.int .i64 l3.day, .slice s5.a1 l3.curs.length s5.c1, .slice s5.a2 l3.unders.length s5.c2, .slice s5.a3 l3.instrs.length s5.c3, .slice s5.a4 l3.accts.length s5.c4, .slice s5.a5 l3.poss.length s5.c5, .slice s5.a6 l3.orders.length s5.c6, .slice s5.a7 l3.avail.length s5.c7, .slice s5.a8 l3.locs.length s5.c8] 37) = w6 at *
  generalize w5.heap.size = g9 at *
  have k0 : w6.cell? ⟨w.heap.size, 0, none⟩ = some (.int .i64 l.day) := X6.out.b1.cell 0
  have k1 : w6.cell? ⟨w.heap.size, 1, none⟩ = some (.slice s.a1 l.curs.length s.c1) := X6.out.b1.cell 1
  have k2 : w6.cell? ⟨w.heap.size, 2, none⟩ = some (.slice s.a2 l.unders.length s.c2) := X6.out.b1.cell 2
  have k3 : w6.cell? ⟨w.heap.size, 3, none⟩ = some (.slice s.a3 l.instrs.length s.c3) := X6.out.b1.cell 3
  have k4 : w6.cell? ⟨w.heap.size, 4, none⟩ = some (.slice s.a4 l.accts.length s.c4) := X6.out.b1.cell 4
  have k5 : w6.cell? ⟨w.heap.size, 5, none⟩ = some (.slice s.a5 l.poss.length s.c5) := X6.out.b1.cell 5
  have k6 : w6.cell? ⟨w.heap.size, 6, none⟩ = some (.slice s.a6 l.orders.length s.c6) := X6.out.b1.cell 6
  have k7 : w6.cell? ⟨w.heap.size, 7, none⟩ = some (.slice s.a7 l.avail.length s.c7) := X6.out.b1.cell 7
  have k8 : w6.cell? ⟨w.heap.size, 8, none⟩ = some (.slice s.a8 l.locs.length s.c8) := X6.out.b1.cell 8
  have p0 : w6.cell? ⟨w.heap.size + 1, 0, none⟩ = some (.int .i64 cur) := X6.out.b2.cell 0
  have p1 : w6.cell? ⟨w.heap.size + 1, 1, none⟩ = some (.int .i64 amount) := X6.out.b2.cell 1
  have q0 : w6.cell? ⟨w.heap.size + 2, 0, none⟩ = some (.int .i64 fr) := X6.out.b3.cell 0
  have q1 : w6.cell? ⟨w.heap.size + 2, 1, none⟩ = some (.int .i64 to_) := X6.out.b3.cell 1
  generalize totalF cur 0 l.accts = tt at HT HRT
  obtain ⟨t1, t2⟩ := tt
  go_upto_region 8 with (go_at_call 17; refine (HT.out _ X6.out.at_).mono ?_; rintro e w7 ⟨rfl, b7⟩)
  clear k0 k1 k2 k3 k4 k5 k6 k7 k8 p0 p1 q0 q1
  have X7 := Lib.hid (X6.out.keep b7)
  have k0 : w7.cell? ⟨w.heap.size, 0, none⟩ = some (.int .i64 l.day) := X7.out.b1.cell 0
  have k1 : w7.cell? ⟨w.heap.size, 1, none⟩ = some (.slice s.a1 l.curs.length s.c1) := X7.out.b1.cell 1
  have k2 : w7.cell? ⟨w.heap.size, 2, none⟩ = some (.slice s.a2 l.unders.length s.c2) := X7.out.b1.cell 2
  have k3 : w7.cell? ⟨w.heap.size, 3, none⟩ = some (.slice s.a3 l.instrs.length s.c3) := X7.out.b1.cell 3
  have k4 : w7.cell? ⟨w.heap.size, 4, none⟩ = some (.slice s.a4 l.accts.length s.c4) := X7.out.b1.cell 4
  have k5 : w7.cell? ⟨w.heap.size, 5, none⟩ = some (.slice s.a5 l.poss.length s.c5) := X7.out.b1.cell 5
  have k6 : w7.cell? ⟨w.heap.size, 6, none⟩ = some (.slice s.a6 l.orders.length s.c6) := X7.out.b1.cell 6
  have k7 : w7.cell? ⟨w.heap.size, 7, none⟩ = some (.slice s.a7 l.avail.length s.c7) := X7.out.b1.cell 7
  have k8 : w7.cell? ⟨w.heap.size, 8, none⟩ = some (.slice s.a8 l.locs.length s.c8) := X7.out.b1.cell 8
  have p0 : w7.cell? ⟨w.heap.size + 1, 0, none⟩ = some (.int .i64 cur) := X7.out.b2.cell 0
  have p1 : w7.cell? ⟨w.heap.size + 1, 1, none⟩ = some (.int .i64 amount) := X7.out.b2.cell 1
  have q0 : w7.cell? ⟨w.heap.size + 2, 0, none⟩ = some (.int .i64 fr) := X7.out.b3.cell 0
  have q1 : w7.cell? ⟨w.heap.size + 2, 1, none⟩ = some (.int .i64 to_) := X7.out.b3.cell 1
  go_upto_region 9 with (go_at_call 18; refine (HRT.out _ X7.out.at_).mono ?_; rintro e w8 ⟨rfl, b8⟩)
  clear k0 k1 k2 k3 k4 k5 k6 k7 k8 p0 p1 q0 q1
  have X8 := Lib.hid (X7.out.keep b8)
  have B8 := Lib.hid ((B6.out.keep b7).keep b8)
  have C8 := Lib.hid ((C6.out.keep b7).keep b8)
  have O8 := Lib.hid ((O6.out.below b7).below b8)
  have Q8 := Lib.hid ((Q6.out.below b7).below b8)
  have HS := Lib.hid (rsame_calls s3 l3 us3 s5 l3 us5 w8 O8.out.at_ Q8.out.at_ hfit3 hfit3)
  simp only [decide_true] at HS
  unfold ledV at HS
  clear b7 b8 X6 X7 B6 C6 O6 Q6
  have k0 : w8.cell? ⟨g7, 0, none⟩ = some (.int .i64 l3.day) := B8.out.cell 0
  have k1 : w8.cell? ⟨g7, 1, none⟩ = some (.slice s3.a1 l3.curs.length s3.c1) := B8.out.cell 1
  have k2 : w8.cell? ⟨g7, 2, none⟩ = some (.slice s3.a2 l3.unders.length s3.c2) := B8.out.cell 2
  have k3 : w8.cell? ⟨g7, 3, none⟩ = some (.slice s3.a3 l3.instrs.length s3.c3) := B8.out.cell 3
  have k4 : w8.cell? ⟨g7, 4, none⟩ = some (.slice s3.a4 l3.accts.length s3.c4) := B8.out.cell 4
  have k5 : w8.cell? ⟨g7, 5, none⟩ = some (.slice s3.a5 l3.poss.length s3.c5) := B8.out.cell 5
  have k6 : w8.cell? ⟨g7, 6, none⟩ = some (.slice s3.a6 l3.orders.length s3.c6) := B8.out.cell 6
  have k7 : w8.cell? ⟨g7, 7, none⟩ = some (.slice s3.a7 l3.avail.length s3.c7) := B8.out.cell 7
  have k8 : w8.cell? ⟨g7, 8, none⟩ = some (.slice s3.a8 l3.locs.length s3.c8) := B8.out.cell 8
  have m0 : w8.cell? ⟨g9, 0, none⟩ = some (.int .i64 l3.day) := C8.out.cell 0
  have m1 : w8.cell? ⟨g9, 1, none⟩ = some (.slice s5.a1 l3.curs.length s5.c1) := C8.out.cell 1
  have m2 : w8.cell? ⟨g9, 2, none⟩ = some (.slice s5.a2 l3.unders.length s5.c2) := C8.out.cell 2
  have m3 : w8.cell? ⟨g9, 3, none⟩ = some (.slice s5.a3 l3.instrs.length s5.c3) := C8.out.cell 3
  have m4 : w8.cell? ⟨g9, 4, none⟩ = some (.slice s5.a4 l3.accts.length s5.c4) := C8.out.cell 4
  have m5 : w8.cell? ⟨g9, 5, none⟩ = some (.slice s5.a5 l3.poss.length s5.c5) := C8.out.cell 5
  have m6 : w8.cell? ⟨g9, 6, none⟩ = some (.slice s5.a6 l3.orders.length s5.c6) := C8.out.cell 6
  have m7 : w8.cell? ⟨g9, 7, none⟩ = some (.slice s5.a7 l3.avail.length s5.c7) := C8.out.cell 7
  have m8 : w8.cell? ⟨g9, 8, none⟩ = some (.slice s5.a8 l3.locs.length s5.c8) := C8.out.cell 8
  go_wp2_with (go_at_call 14; refine HS.out.mono ?_; rintro e w9 ⟨rfl, b9⟩)
  go_ret
  exact ⟨rfl, X8.out.low.trans (b9.mono X8.out.low.size)⟩

set_option maxRecDepth 100000 in
theorem opened (H : Type) (enc : TypeId × Value → H) (W : World) (base : Nat) (args : Array Value) (ds : List (DataW H)) (p : List MemPlace)
    (hval : ∀ (j : Nat) t v, Tryd.f5.params[j]? = some t → args[j]? = some v → Value.okWide Tryd.prog W .any base t v)
    (hA : DataW.TrodAll enc Tryd.prog W 0 (fun _ => true) true Tryd.f5.params.toList args.toList ds p)
    (hr : ∀ x ∈ DataW.weightsEach Tryd.prog Tryd.f5.params.toList ds, x ≤ reachBytes)
    (hL : laidMetH Tryd.prog Rows.ledgerPaysRow.laid W) :
    Calls Tryd.prog 5 args W fun e W' => e = .returned (.bool true) ∧ Below W.heap.size W W' := by
  rw [Tryd.params5] at hA hval hr
  have _ := hL
  obtain ⟨v0, vs0, d0, ds0, p0, q0, hargs, rfl, rfl, h0, r0⟩ := trodAll_cons hA
  obtain ⟨v1, vs1, d1, ds1, p1, q1, rfl, rfl, rfl, h1, r1⟩ := trodAll_cons r0
  obtain ⟨v2, vs2, d2, ds2, p2, q2, rfl, rfl, rfl, h2, r2⟩ := trodAll_cons r1
  obtain ⟨rfl, rfl, rfl⟩ := trodAll_nil r2
  obtain rfl : args = #[v0, v1, v2] := by cases args; simp_all
  obtain ⟨s, l, vs, rfl, hat, hok, hb⟩ := open_ledger2 (hval 0 37 v0 rfl rfl) h0 (fun x hx => hr x (by simp only [DataW.weightsEach, List.mem_append]; exact .inl hx))
  obtain ⟨cur, amount, rfl, _, ia⟩ := open_two (hval 1 46 v1 rfl rfl) h1
  obtain ⟨fr, to_, rfl, _, _⟩ := open_two (hval 2 46 v2 rfl rfl) h2
  exact walk s l vs cur amount fr to_ W hat hok hb ia
end Go.Proofs.YtmimhimlgbklpaaDoor.ledgerPays
