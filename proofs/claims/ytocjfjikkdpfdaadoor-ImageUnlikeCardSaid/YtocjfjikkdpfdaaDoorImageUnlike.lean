/- ImageUnlike: the walk, and the step from the law's arguments to it. Written by genunlike.py. -/
import Derived.Test.YtocjfjikkdpfdaaDoorImgC
set_option linter.unusedSimpArgs false
set_option linter.unusedVariables false
namespace Go.Proofs.YtocjfjikkdpfdaaDoor.imageUnlike
open Go.ChangeShapes Go.WideShapes Go.ChangeAt Go.RowKit Go.Proofs.YtocjfjikkdpfdaaDoor.Bas Go.Proofs.YtocjfjikkdpfdaaDoor.LedM Go.Proofs.YtocjfjikkdpfdaaDoor.LedW Go.Proofs.YtocjfjikkdpfdaaDoor.ImgW

/-- the law's boxes -/
structure UB (w W : World) (s : Lists) (l : Led) (vs : List (Value × Acc)) (r : Lists) (m : Led) (us : List (Value × Acc)) (x y : EvR) : Prop where
  led : TwoLed w W s l vs r m us
  ev : Box W (w.heap.size + 2) 43 #[.int .i64 x.kind, .int .i64 x.acct, .int .i64 x.id, .int .i64 x.new, .int .i64 x.instr, .int .i64 x.under, .int .i64 x.cur, .int .i64 x.qty, .int .i64 x.price, .int .i64 x.amount, .bool x.call, .string ⟨x.name.toArray⟩, .int .i64 y.kind, .int .i64 y.acct, .int .i64 y.id, .int .i64 y.new, .int .i64 y.instr, .int .i64 y.under, .int .i64 y.cur, .int .i64 y.qty, .int .i64 y.price, .int .i64 y.amount, .bool y.call, .string ⟨y.name.toArray⟩]
theorem UB.keep {w A B : World} {s : Lists} {l : Led} {vs : List (Value × Acc)} {r : Lists} {m : Led} {us : List (Value × Acc)} {x y : EvR} (h : UB w A s l vs r m us x y) (b : Below A.heap.size A B) : UB w B s l vs r m us x y := ⟨h.led.keep b, h.ev.keep b⟩
theorem UB.drew {w A : World} {s : Lists} {l : Led} {vs : List (Value × Acc)} {r : Lists} {m : Led} {us : List (Value × Acc)} {x y : EvR} (h : UB w A s l vs r m us x y) : UB w A.drew s l vs r m us x y := h.keep (bel_of ⟨1, rfl⟩)
theorem image_cases (l : Led) : (goodF l = true ∧ imageF l = (encL l, 0)) ∨ imageF l = ([], 43) := by
  unfold imageF
  by_cases h : goodF l = true
  · exact .inl ⟨h, if_pos h⟩
  · exact .inr (if_neg h)
theorem event_cases (x : EvR) : eventF x = (encE x, 0) ∨ ∃ c, eventF x = ([], c) ∧ (c != 0) = true := by
  unfold eventF
  split
  · exact .inr ⟨_, rfl, rfl⟩
  · split
    · exact .inr ⟨_, rfl, rfl⟩
    · exact .inl rfl
set_option maxHeartbeats 16000000 in
set_option maxRecDepth 100000 in
theorem walk (s : Lists) (l : Led) (vs : List (Value × Acc)) (r : Lists) (m : Led) (us : List (Value × Acc)) (x y : EvR) (w : World) (h1 : LedAt w s l vs) (o1 : LedOk w l vs s) (b1 : LedBig l) (h2 : LedAt w r m us) (o2 : LedOk w m us r) (b2 : LedBig m) (fx : EvFit x) (fy : EvFit y) :
    Calls Tryd.prog 4 #[ledV s l, ledV r m, .agg #[.int .i64 x.kind, .int .i64 x.acct, .int .i64 x.id, .int .i64 x.new, .int .i64 x.instr, .int .i64 x.under, .int .i64 x.cur, .int .i64 x.qty, .int .i64 x.price, .int .i64 x.amount, .bool x.call, .string ⟨x.name.toArray⟩, .int .i64 y.kind, .int .i64 y.acct, .int .i64 y.id, .int .i64 y.new, .int .i64 y.instr, .int .i64 y.under, .int .i64 y.cur, .int .i64 y.qty, .int .i64 y.price, .int .i64 y.amount, .bool y.call, .string ⟨y.name.toArray⟩]] w fun e w' => e = .returned (.bool true) ∧ Below w.heap.size w w' := by
  have X : UB w (((w.alloc (.cells #[.int .i64 l.day, .slice s.a1 l.curs.length s.c1, .slice s.a2 l.unders.length s.c2, .slice s.a3 l.instrs.length s.c3, .slice s.a4 l.accts.length s.c4, .slice s.a5 l.poss.length s.c5, .slice s.a6 l.orders.length s.c6, .slice s.a7 l.avail.length s.c7, .slice s.a8 l.locs.length s.c8] 31)).alloc (.cells #[.int .i64 m.day, .slice r.a1 m.curs.length r.c1, .slice r.a2 m.unders.length r.c2, .slice r.a3 m.instrs.length r.c3, .slice r.a4 m.accts.length r.c4, .slice r.a5 m.poss.length r.c5, .slice r.a6 m.orders.length r.c6, .slice r.a7 m.avail.length r.c7, .slice r.a8 m.locs.length r.c8] 31)).alloc (.cells #[.int .i64 x.kind, .int .i64 x.acct, .int .i64 x.id, .int .i64 x.new, .int .i64 x.instr, .int .i64 x.under, .int .i64 x.cur, .int .i64 x.qty, .int .i64 x.price, .int .i64 x.amount, .bool x.call, .string ⟨x.name.toArray⟩, .int .i64 y.kind, .int .i64 y.acct, .int .i64 y.id, .int .i64 y.new, .int .i64 y.instr, .int .i64 y.under, .int .i64 y.cur, .int .i64 y.qty, .int .i64 y.price, .int .i64 y.amount, .bool y.call, .string ⟨y.name.toArray⟩] 43)) s l vs r m us x y := by
    have a2 := Box.new ((w.alloc (.cells #[.int .i64 l.day, .slice s.a1 l.curs.length s.c1, .slice s.a2 l.unders.length s.c2, .slice s.a3 l.instrs.length s.c3, .slice s.a4 l.accts.length s.c4, .slice s.a5 l.poss.length s.c5, .slice s.a6 l.orders.length s.c6, .slice s.a7 l.avail.length s.c7, .slice s.a8 l.locs.length s.c8] 31)).alloc (.cells #[.int .i64 m.day, .slice r.a1 m.curs.length r.c1, .slice r.a2 m.unders.length r.c2, .slice r.a3 m.instrs.length r.c3, .slice r.a4 m.accts.length r.c4, .slice r.a5 m.poss.length r.c5, .slice r.a6 m.orders.length r.c6, .slice r.a7 m.avail.length r.c7, .slice r.a8 m.locs.length r.c8] 31)) 43 #[.int .i64 x.kind, .int .i64 x.acct, .int .i64 x.id, .int .i64 x.new, .int .i64 x.instr, .int .i64 x.under, .int .i64 x.cur, .int .i64 x.qty, .int .i64 x.price, .int .i64 x.amount, .bool x.call, .string ⟨x.name.toArray⟩, .int .i64 y.kind, .int .i64 y.acct, .int .i64 y.id, .int .i64 y.new, .int .i64 y.instr, .int .i64 y.under, .int .i64 y.cur, .int .i64 y.qty, .int .i64 y.price, .int .i64 y.amount, .bool y.call, .string ⟨y.name.toArray⟩]
    rw [World.size_alloc, World.size_alloc] at a2
    exact ⟨(twoLed_new w s l vs r m us h1 h2).keep ((Below.refl _ _).alloc (Nat.le_refl _) _), a2⟩
  have D0 := Lib.hid (fun W => iwakes_calls W)
  have DA := Lib.hid (fun W h => iwide_calls s l vs W h b1)
  have DB := Lib.hid (fun W h => iwide_calls r m us W h b2)
  have HF1 := Lib.hid (fun h => ifit_of o1 h1 h)
  have HF2 := Lib.hid (fun h => ifit_of o2 h2 h)
  clear h1 o1 b1 h2 o2 b2
  unfold ledV at DA DB ⊢
  go_enter Tryd.func4, Tryd.ntmps4
  go_upto_region 1 with fail
  change Code.wp _ _ _ _ (((w.alloc (.cells #[.int .i64 l.day, .slice s.a1 l.curs.length s.c1, .slice s.a2 l.unders.length s.c2, .slice s.a3 l.instrs.length s.c3, .slice s.a4 l.accts.length s.c4, .slice s.a5 l.poss.length s.c5, .slice s.a6 l.orders.length s.c6, .slice s.a7 l.avail.length s.c7, .slice s.a8 l.locs.length s.c8] 31)).alloc (.cells #[.int .i64 m.day, .slice r.a1 m.curs.length r.c1, .slice r.a2 m.unders.length r.c2, .slice r.a3 m.instrs.length r.c3, .slice r.a4 m.accts.length r.c4, .slice r.a5 m.poss.length r.c5, .slice r.a6 m.orders.length r.c6, .slice r.a7 m.avail.length r.c7, .slice r.a8 m.locs.length r.c8] 31)).alloc (.cells #[.int .i64 x.kind, .int .i64 x.acct, .int .i64 x.id, .int .i64 x.new, .int .i64 x.instr, .int .i64 x.under, .int .i64 x.cur, .int .i64 x.qty, .int .i64 x.price, .int .i64 x.amount, .bool x.call, .string ⟨x.name.toArray⟩, .int .i64 y.kind, .int .i64 y.acct, .int .i64 y.id, .int .i64 y.new, .int .i64 y.instr, .int .i64 y.under, .int .i64 y.cur, .int .i64 y.qty, .int .i64 y.price, .int .i64 y.amount, .bool y.call, .string ⟨y.name.toArray⟩] 43))
  generalize ((w.alloc (.cells #[.int .i64 l.day, .slice s.a1 l.curs.length s.c1, .slice s.a2 l.unders.length s.c2, .slice s.a3 l.instrs.length s.c3, .slice s.a4 l.accts.length s.c4, .slice s.a5 l.poss.length s.c5, .slice s.a6 l.orders.length s.c6, .slice s.a7 l.avail.length s.c7, .slice s.a8 l.locs.length s.c8] 31)).alloc (.cells #[.int .i64 m.day, .slice r.a1 m.curs.length r.c1, .slice r.a2 m.unders.length r.c2, .slice r.a3 m.instrs.length r.c3, .slice r.a4 m.accts.length r.c4, .slice r.a5 m.poss.length r.c5, .slice r.a6 m.orders.length r.c6, .slice r.a7 m.avail.length r.c7, .slice r.a8 m.locs.length r.c8] 31)).alloc (.cells #[.int .i64 x.kind, .int .i64 x.acct, .int .i64 x.id, .int .i64 x.new, .int .i64 x.instr, .int .i64 x.under, .int .i64 x.cur, .int .i64 x.qty, .int .i64 x.price, .int .i64 x.amount, .bool x.call, .string ⟨x.name.toArray⟩, .int .i64 y.kind, .int .i64 y.acct, .int .i64 y.id, .int .i64 y.new, .int .i64 y.instr, .int .i64 y.under, .int .i64 y.cur, .int .i64 y.qty, .int .i64 y.price, .int .i64 y.amount, .bool y.call, .string ⟨y.name.toArray⟩] 43) = w0 at *
  have XH := Lib.hid X
  clear X
  cases ha : iwideF l with
  | true =>
    rw [ha] at DA
    clear ha HF1 HF2
    go_wp2_with (first | (go_at_call 8; refine (DA.out _ X1.led.one.at_).mono ?_; rintro e w2 ⟨rfl, b2⟩) | (go_at_call 7; refine (D0.out _).mono ?_; rintro e w1 ⟨rfl, b1⟩; have X1 := XH.out.keep b1; have k0 : w1.cell? ⟨w.heap.size, 0, none⟩ = some (.int .i64 l.day) := X1.led.one.box.cell 0; have k1 : w1.cell? ⟨w.heap.size, 1, none⟩ = some (.slice s.a1 l.curs.length s.c1) := X1.led.one.box.cell 1; have k2 : w1.cell? ⟨w.heap.size, 2, none⟩ = some (.slice s.a2 l.unders.length s.c2) := X1.led.one.box.cell 2; have k3 : w1.cell? ⟨w.heap.size, 3, none⟩ = some (.slice s.a3 l.instrs.length s.c3) := X1.led.one.box.cell 3; have k4 : w1.cell? ⟨w.heap.size, 4, none⟩ = some (.slice s.a4 l.accts.length s.c4) := X1.led.one.box.cell 4; have k5 : w1.cell? ⟨w.heap.size, 5, none⟩ = some (.slice s.a5 l.poss.length s.c5) := X1.led.one.box.cell 5; have k6 : w1.cell? ⟨w.heap.size, 6, none⟩ = some (.slice s.a6 l.orders.length s.c6) := X1.led.one.box.cell 6; have k7 : w1.cell? ⟨w.heap.size, 7, none⟩ = some (.slice s.a7 l.avail.length s.c7) := X1.led.one.box.cell 7; have k8 : w1.cell? ⟨w.heap.size, 8, none⟩ = some (.slice s.a8 l.locs.length s.c8) := X1.led.one.box.cell 8; have j0 : w1.cell? ⟨w.heap.size + 1, 0, none⟩ = some (.int .i64 m.day) := X1.led.two.box.cell 0; have j1 : w1.cell? ⟨w.heap.size + 1, 1, none⟩ = some (.slice r.a1 m.curs.length r.c1) := X1.led.two.box.cell 1; have j2 : w1.cell? ⟨w.heap.size + 1, 2, none⟩ = some (.slice r.a2 m.unders.length r.c2) := X1.led.two.box.cell 2; have j3 : w1.cell? ⟨w.heap.size + 1, 3, none⟩ = some (.slice r.a3 m.instrs.length r.c3) := X1.led.two.box.cell 3; have j4 : w1.cell? ⟨w.heap.size + 1, 4, none⟩ = some (.slice r.a4 m.accts.length r.c4) := X1.led.two.box.cell 4; have j5 : w1.cell? ⟨w.heap.size + 1, 5, none⟩ = some (.slice r.a5 m.poss.length r.c5) := X1.led.two.box.cell 5; have j6 : w1.cell? ⟨w.heap.size + 1, 6, none⟩ = some (.slice r.a6 m.orders.length r.c6) := X1.led.two.box.cell 6; have j7 : w1.cell? ⟨w.heap.size + 1, 7, none⟩ = some (.slice r.a7 m.avail.length r.c7) := X1.led.two.box.cell 7; have j8 : w1.cell? ⟨w.heap.size + 1, 8, none⟩ = some (.slice r.a8 m.locs.length r.c8) := X1.led.two.box.cell 8))
    go_ret
    exact ⟨rfl, X1.led.one.low.trans (b2.mono X1.led.one.low.size)⟩
  | false =>
  rw [ha] at DA
  have f1 := Lib.hid (HF1.out ha)
  clear HF1 ha
  cases hb : iwideF m with
  | true =>
    rw [hb] at DB
    clear hb HF2
    go_wp2_with (first | (go_at_call 8; first | (refine (DB.out _ X2.led.two.at_).mono ?_; rintro e w3 ⟨rfl, b3⟩) | (refine (DA.out _ X1.led.one.at_).mono ?_; rintro e w2 ⟨rfl, b2⟩; have X2 := X1.keep b2; clear k0 k1 k2 k3 k4 k5 k6 k7 k8 j0 j1 j2 j3 j4 j5 j6 j7 j8; have k0 : w2.cell? ⟨w.heap.size, 0, none⟩ = some (.int .i64 l.day) := X2.led.one.box.cell 0; have k1 : w2.cell? ⟨w.heap.size, 1, none⟩ = some (.slice s.a1 l.curs.length s.c1) := X2.led.one.box.cell 1; have k2 : w2.cell? ⟨w.heap.size, 2, none⟩ = some (.slice s.a2 l.unders.length s.c2) := X2.led.one.box.cell 2; have k3 : w2.cell? ⟨w.heap.size, 3, none⟩ = some (.slice s.a3 l.instrs.length s.c3) := X2.led.one.box.cell 3; have k4 : w2.cell? ⟨w.heap.size, 4, none⟩ = some (.slice s.a4 l.accts.length s.c4) := X2.led.one.box.cell 4; have k5 : w2.cell? ⟨w.heap.size, 5, none⟩ = some (.slice s.a5 l.poss.length s.c5) := X2.led.one.box.cell 5; have k6 : w2.cell? ⟨w.heap.size, 6, none⟩ = some (.slice s.a6 l.orders.length s.c6) := X2.led.one.box.cell 6; have k7 : w2.cell? ⟨w.heap.size, 7, none⟩ = some (.slice s.a7 l.avail.length s.c7) := X2.led.one.box.cell 7; have k8 : w2.cell? ⟨w.heap.size, 8, none⟩ = some (.slice s.a8 l.locs.length s.c8) := X2.led.one.box.cell 8; have j0 : w2.cell? ⟨w.heap.size + 1, 0, none⟩ = some (.int .i64 m.day) := X2.led.two.box.cell 0; have j1 : w2.cell? ⟨w.heap.size + 1, 1, none⟩ = some (.slice r.a1 m.curs.length r.c1) := X2.led.two.box.cell 1; have j2 : w2.cell? ⟨w.heap.size + 1, 2, none⟩ = some (.slice r.a2 m.unders.length r.c2) := X2.led.two.box.cell 2; have j3 : w2.cell? ⟨w.heap.size + 1, 3, none⟩ = some (.slice r.a3 m.instrs.length r.c3) := X2.led.two.box.cell 3; have j4 : w2.cell? ⟨w.heap.size + 1, 4, none⟩ = some (.slice r.a4 m.accts.length r.c4) := X2.led.two.box.cell 4; have j5 : w2.cell? ⟨w.heap.size + 1, 5, none⟩ = some (.slice r.a5 m.poss.length r.c5) := X2.led.two.box.cell 5; have j6 : w2.cell? ⟨w.heap.size + 1, 6, none⟩ = some (.slice r.a6 m.orders.length r.c6) := X2.led.two.box.cell 6; have j7 : w2.cell? ⟨w.heap.size + 1, 7, none⟩ = some (.slice r.a7 m.avail.length r.c7) := X2.led.two.box.cell 7; have j8 : w2.cell? ⟨w.heap.size + 1, 8, none⟩ = some (.slice r.a8 m.locs.length r.c8) := X2.led.two.box.cell 8)) | (go_at_call 7; refine (D0.out _).mono ?_; rintro e w1 ⟨rfl, b1⟩; have X1 := XH.out.keep b1; have k0 : w1.cell? ⟨w.heap.size, 0, none⟩ = some (.int .i64 l.day) := X1.led.one.box.cell 0; have k1 : w1.cell? ⟨w.heap.size, 1, none⟩ = some (.slice s.a1 l.curs.length s.c1) := X1.led.one.box.cell 1; have k2 : w1.cell? ⟨w.heap.size, 2, none⟩ = some (.slice s.a2 l.unders.length s.c2) := X1.led.one.box.cell 2; have k3 : w1.cell? ⟨w.heap.size, 3, none⟩ = some (.slice s.a3 l.instrs.length s.c3) := X1.led.one.box.cell 3; have k4 : w1.cell? ⟨w.heap.size, 4, none⟩ = some (.slice s.a4 l.accts.length s.c4) := X1.led.one.box.cell 4; have k5 : w1.cell? ⟨w.heap.size, 5, none⟩ = some (.slice s.a5 l.poss.length s.c5) := X1.led.one.box.cell 5; have k6 : w1.cell? ⟨w.heap.size, 6, none⟩ = some (.slice s.a6 l.orders.length s.c6) := X1.led.one.box.cell 6; have k7 : w1.cell? ⟨w.heap.size, 7, none⟩ = some (.slice s.a7 l.avail.length s.c7) := X1.led.one.box.cell 7; have k8 : w1.cell? ⟨w.heap.size, 8, none⟩ = some (.slice s.a8 l.locs.length s.c8) := X1.led.one.box.cell 8; have j0 : w1.cell? ⟨w.heap.size + 1, 0, none⟩ = some (.int .i64 m.day) := X1.led.two.box.cell 0; have j1 : w1.cell? ⟨w.heap.size + 1, 1, none⟩ = some (.slice r.a1 m.curs.length r.c1) := X1.led.two.box.cell 1; have j2 : w1.cell? ⟨w.heap.size + 1, 2, none⟩ = some (.slice r.a2 m.unders.length r.c2) := X1.led.two.box.cell 2; have j3 : w1.cell? ⟨w.heap.size + 1, 3, none⟩ = some (.slice r.a3 m.instrs.length r.c3) := X1.led.two.box.cell 3; have j4 : w1.cell? ⟨w.heap.size + 1, 4, none⟩ = some (.slice r.a4 m.accts.length r.c4) := X1.led.two.box.cell 4; have j5 : w1.cell? ⟨w.heap.size + 1, 5, none⟩ = some (.slice r.a5 m.poss.length r.c5) := X1.led.two.box.cell 5; have j6 : w1.cell? ⟨w.heap.size + 1, 6, none⟩ = some (.slice r.a6 m.orders.length r.c6) := X1.led.two.box.cell 6; have j7 : w1.cell? ⟨w.heap.size + 1, 7, none⟩ = some (.slice r.a7 m.avail.length r.c7) := X1.led.two.box.cell 7; have j8 : w1.cell? ⟨w.heap.size + 1, 8, none⟩ = some (.slice r.a8 m.locs.length r.c8) := X1.led.two.box.cell 8))
    go_ret
    exact ⟨rfl, X2.led.one.low.trans (b3.mono X2.led.one.low.size)⟩
  | false =>
  rw [hb] at DB
  have f2 := Lib.hid (HF2.out hb)
  clear HF2 hb
  go_upto_region 5 with (first | (go_at_call 8; first | (refine (DB.out _ X2.led.two.at_).mono ?_; rintro e w3 ⟨rfl, b3⟩; have X3 := X2.keep b3) | (refine (DA.out _ X1.led.one.at_).mono ?_; rintro e w2 ⟨rfl, b2⟩; have X2 := X1.keep b2; clear k0 k1 k2 k3 k4 k5 k6 k7 k8 j0 j1 j2 j3 j4 j5 j6 j7 j8; have k0 : w2.cell? ⟨w.heap.size, 0, none⟩ = some (.int .i64 l.day) := X2.led.one.box.cell 0; have k1 : w2.cell? ⟨w.heap.size, 1, none⟩ = some (.slice s.a1 l.curs.length s.c1) := X2.led.one.box.cell 1; have k2 : w2.cell? ⟨w.heap.size, 2, none⟩ = some (.slice s.a2 l.unders.length s.c2) := X2.led.one.box.cell 2; have k3 : w2.cell? ⟨w.heap.size, 3, none⟩ = some (.slice s.a3 l.instrs.length s.c3) := X2.led.one.box.cell 3; have k4 : w2.cell? ⟨w.heap.size, 4, none⟩ = some (.slice s.a4 l.accts.length s.c4) := X2.led.one.box.cell 4; have k5 : w2.cell? ⟨w.heap.size, 5, none⟩ = some (.slice s.a5 l.poss.length s.c5) := X2.led.one.box.cell 5; have k6 : w2.cell? ⟨w.heap.size, 6, none⟩ = some (.slice s.a6 l.orders.length s.c6) := X2.led.one.box.cell 6; have k7 : w2.cell? ⟨w.heap.size, 7, none⟩ = some (.slice s.a7 l.avail.length s.c7) := X2.led.one.box.cell 7; have k8 : w2.cell? ⟨w.heap.size, 8, none⟩ = some (.slice s.a8 l.locs.length s.c8) := X2.led.one.box.cell 8; have j0 : w2.cell? ⟨w.heap.size + 1, 0, none⟩ = some (.int .i64 m.day) := X2.led.two.box.cell 0; have j1 : w2.cell? ⟨w.heap.size + 1, 1, none⟩ = some (.slice r.a1 m.curs.length r.c1) := X2.led.two.box.cell 1; have j2 : w2.cell? ⟨w.heap.size + 1, 2, none⟩ = some (.slice r.a2 m.unders.length r.c2) := X2.led.two.box.cell 2; have j3 : w2.cell? ⟨w.heap.size + 1, 3, none⟩ = some (.slice r.a3 m.instrs.length r.c3) := X2.led.two.box.cell 3; have j4 : w2.cell? ⟨w.heap.size + 1, 4, none⟩ = some (.slice r.a4 m.accts.length r.c4) := X2.led.two.box.cell 4; have j5 : w2.cell? ⟨w.heap.size + 1, 5, none⟩ = some (.slice r.a5 m.poss.length r.c5) := X2.led.two.box.cell 5; have j6 : w2.cell? ⟨w.heap.size + 1, 6, none⟩ = some (.slice r.a6 m.orders.length r.c6) := X2.led.two.box.cell 6; have j7 : w2.cell? ⟨w.heap.size + 1, 7, none⟩ = some (.slice r.a7 m.avail.length r.c7) := X2.led.two.box.cell 7; have j8 : w2.cell? ⟨w.heap.size + 1, 8, none⟩ = some (.slice r.a8 m.locs.length r.c8) := X2.led.two.box.cell 8)) | (go_at_call 7; refine (D0.out _).mono ?_; rintro e w1 ⟨rfl, b1⟩; have X1 := XH.out.keep b1; have k0 : w1.cell? ⟨w.heap.size, 0, none⟩ = some (.int .i64 l.day) := X1.led.one.box.cell 0; have k1 : w1.cell? ⟨w.heap.size, 1, none⟩ = some (.slice s.a1 l.curs.length s.c1) := X1.led.one.box.cell 1; have k2 : w1.cell? ⟨w.heap.size, 2, none⟩ = some (.slice s.a2 l.unders.length s.c2) := X1.led.one.box.cell 2; have k3 : w1.cell? ⟨w.heap.size, 3, none⟩ = some (.slice s.a3 l.instrs.length s.c3) := X1.led.one.box.cell 3; have k4 : w1.cell? ⟨w.heap.size, 4, none⟩ = some (.slice s.a4 l.accts.length s.c4) := X1.led.one.box.cell 4; have k5 : w1.cell? ⟨w.heap.size, 5, none⟩ = some (.slice s.a5 l.poss.length s.c5) := X1.led.one.box.cell 5; have k6 : w1.cell? ⟨w.heap.size, 6, none⟩ = some (.slice s.a6 l.orders.length s.c6) := X1.led.one.box.cell 6; have k7 : w1.cell? ⟨w.heap.size, 7, none⟩ = some (.slice s.a7 l.avail.length s.c7) := X1.led.one.box.cell 7; have k8 : w1.cell? ⟨w.heap.size, 8, none⟩ = some (.slice s.a8 l.locs.length s.c8) := X1.led.one.box.cell 8; have j0 : w1.cell? ⟨w.heap.size + 1, 0, none⟩ = some (.int .i64 m.day) := X1.led.two.box.cell 0; have j1 : w1.cell? ⟨w.heap.size + 1, 1, none⟩ = some (.slice r.a1 m.curs.length r.c1) := X1.led.two.box.cell 1; have j2 : w1.cell? ⟨w.heap.size + 1, 2, none⟩ = some (.slice r.a2 m.unders.length r.c2) := X1.led.two.box.cell 2; have j3 : w1.cell? ⟨w.heap.size + 1, 3, none⟩ = some (.slice r.a3 m.instrs.length r.c3) := X1.led.two.box.cell 3; have j4 : w1.cell? ⟨w.heap.size + 1, 4, none⟩ = some (.slice r.a4 m.accts.length r.c4) := X1.led.two.box.cell 4; have j5 : w1.cell? ⟨w.heap.size + 1, 5, none⟩ = some (.slice r.a5 m.poss.length r.c5) := X1.led.two.box.cell 5; have j6 : w1.cell? ⟨w.heap.size + 1, 6, none⟩ = some (.slice r.a6 m.orders.length r.c6) := X1.led.two.box.cell 6; have j7 : w1.cell? ⟨w.heap.size + 1, 7, none⟩ = some (.slice r.a7 m.avail.length r.c7) := X1.led.two.box.cell 7; have j8 : w1.cell? ⟨w.heap.size + 1, 8, none⟩ = some (.slice r.a8 m.locs.length r.c8) := X1.led.two.box.cell 8))
  have X4 := Lib.hid X3
  clear k0 k1 k2 k3 k4 k5 k6 k7 k8 j0 j1 j2 j3 j4 j5 j6 j7 j8 X1 X2 X3 b1 b2 b3 D0 DA DB XH
  have HL := Lib.hid (fun W (X : UB w W s l vs r m us x y) => same_calls s l vs r m us W X.led.one.at_ X.led.two.at_ f1.out f2.out)
  have HA := Lib.hid (fun W h => image_calls s l vs W h f1.out)
  have HB := Lib.hid (fun W h => image_calls r m us W h f2.out)
  have HX := Lib.hid (fun W => event_calls x W fx.name)
  have HY := Lib.hid (fun W => event_calls y W fy.name)
  have z1 := Lib.hid (image_size l f1.out)
  have z2 := Lib.hid (image_size m f2.out)
  have z3 := Lib.hid (event_size x)
  have z4 := Lib.hid (event_size y)
  have HJ := Lib.hid (fun gl gm h => encL_inj (l := l) (m := m) f1.out f2.out gl gm h)
  have HE := Lib.hid (fun h => encE_inj (x := x) (y := y) fx fy h)
  clear f1 f2 fx fy
  have HQ : Hid (∀ W : World, (binOp .eql 33 (.agg #[.int .i64 x.kind, .int .i64 x.acct, .int .i64 x.id, .int .i64 x.new, .int .i64 x.instr, .int .i64 x.under, .int .i64 x.cur, .int .i64 x.qty, .int .i64 x.price, .int .i64 x.amount, .bool x.call, .string ⟨x.name.toArray⟩]) (.agg #[.int .i64 y.kind, .int .i64 y.acct, .int .i64 y.id, .int .i64 y.new, .int .i64 y.instr, .int .i64 y.under, .int .i64 y.cur, .int .i64 y.qty, .int .i64 y.price, .int .i64 y.amount, .bool y.call, .string ⟨y.name.toArray⟩])).run Tryd.prog W = .ok (.bool (decide (x = y))) W) := fun W => eql_ev2 W x y
  unfold ledV at HA HB HL
  unfold evV at HX HY
  have k0 : w3.cell? ⟨w.heap.size, 0, none⟩ = some (.int .i64 l.day) := X4.out.led.one.box.cell 0
  have k1 : w3.cell? ⟨w.heap.size, 1, none⟩ = some (.slice s.a1 l.curs.length s.c1) := X4.out.led.one.box.cell 1
  have k2 : w3.cell? ⟨w.heap.size, 2, none⟩ = some (.slice s.a2 l.unders.length s.c2) := X4.out.led.one.box.cell 2
  have k3 : w3.cell? ⟨w.heap.size, 3, none⟩ = some (.slice s.a3 l.instrs.length s.c3) := X4.out.led.one.box.cell 3
  have k4 : w3.cell? ⟨w.heap.size, 4, none⟩ = some (.slice s.a4 l.accts.length s.c4) := X4.out.led.one.box.cell 4
  have k5 : w3.cell? ⟨w.heap.size, 5, none⟩ = some (.slice s.a5 l.poss.length s.c5) := X4.out.led.one.box.cell 5
  have k6 : w3.cell? ⟨w.heap.size, 6, none⟩ = some (.slice s.a6 l.orders.length s.c6) := X4.out.led.one.box.cell 6
  have k7 : w3.cell? ⟨w.heap.size, 7, none⟩ = some (.slice s.a7 l.avail.length s.c7) := X4.out.led.one.box.cell 7
  have k8 : w3.cell? ⟨w.heap.size, 8, none⟩ = some (.slice s.a8 l.locs.length s.c8) := X4.out.led.one.box.cell 8
  rcases image_cases l with ⟨gl, el⟩ | el
  · rw [el] at HA z1
    clear el
    rcases image_cases m with ⟨gm, em⟩ | em
    · rw [em] at HB z2
      clear em
      have hd : decide (encL l = encL m) = decide (l = m) := decide_eq_decide.2 ⟨HJ.out gl gm, fun h => by rw [h]⟩
      clear gm gl
      generalize encL l = q1 at *
      generalize encL m = q2 at *
      clear HJ
      go_upto_region 6 with (go_at_call 9; refine (HA.out _ X4.out.led.one.at_).mono ?_; rintro e w5 ⟨o5, rfl, own5, b5⟩)
      have X5 := Lib.hid (X4.out.keep b5)
      obtain ⟨a5, c5, rfl, _, _, at5, _, _⟩ := at_of_owns own5
      have A5 := Lib.hid at5
      clear k0 k1 k2 k3 k4 k5 k6 k7 k8 X4 b5 own5 HA at5
      have j0 : w5.cell? ⟨w.heap.size + 1, 0, none⟩ = some (.int .i64 m.day) := X5.out.led.two.box.cell 0
      have j1 : w5.cell? ⟨w.heap.size + 1, 1, none⟩ = some (.slice r.a1 m.curs.length r.c1) := X5.out.led.two.box.cell 1
      have j2 : w5.cell? ⟨w.heap.size + 1, 2, none⟩ = some (.slice r.a2 m.unders.length r.c2) := X5.out.led.two.box.cell 2
      have j3 : w5.cell? ⟨w.heap.size + 1, 3, none⟩ = some (.slice r.a3 m.instrs.length r.c3) := X5.out.led.two.box.cell 3
      have j4 : w5.cell? ⟨w.heap.size + 1, 4, none⟩ = some (.slice r.a4 m.accts.length r.c4) := X5.out.led.two.box.cell 4
      have j5 : w5.cell? ⟨w.heap.size + 1, 5, none⟩ = some (.slice r.a5 m.poss.length r.c5) := X5.out.led.two.box.cell 5
      have j6 : w5.cell? ⟨w.heap.size + 1, 6, none⟩ = some (.slice r.a6 m.orders.length r.c6) := X5.out.led.two.box.cell 6
      have j7 : w5.cell? ⟨w.heap.size + 1, 7, none⟩ = some (.slice r.a7 m.avail.length r.c7) := X5.out.led.two.box.cell 7
      have j8 : w5.cell? ⟨w.heap.size + 1, 8, none⟩ = some (.slice r.a8 m.locs.length r.c8) := X5.out.led.two.box.cell 8
      go_upto_region 7 with (go_at_call 9; refine (HB.out _ X5.out.led.two.at_).mono ?_; rintro e w6 ⟨o6, rfl, own6, b6⟩)
      have X6 := Lib.hid (X5.out.keep b6)
      have B5 := Lib.hid (A5.out.keep b6)
      obtain ⟨a6, c6, rfl, _, _, at6, _, _⟩ := at_of_owns own6
      have A6 := Lib.hid at6
      clear j0 j1 j2 j3 j4 j5 j6 j7 j8 X5 b6 own6 HB at6 A5
      have S1 := Lib.hid (fun W (b : UB w W s l vs r m us x y ∧ Below w6.heap.size w6 W) => isame_calls a5 a6 c5 c6 q1 q2 W z1.out z2.out (B5.out.keep b.2) (A6.out.keep b.2))
      simp only [hd] at S1
      clear hd
      generalize hb : decide (l = m) = b at S1 HL
      clear hb
      have Z6 : UB w w6.drew s l vs r m us x y ∧ Below w6.heap.size w6 w6.drew := ⟨X6.out.drew, bel_of ⟨1, rfl⟩⟩
      have X00 := Z6
      refine kept_region (fun W => W.cell? ⟨w.heap.size, 0, none⟩ = some (.int .i64 l.day) ∧ W.cell? ⟨w.heap.size, 1, none⟩ = some (.slice s.a1 l.curs.length s.c1) ∧ W.cell? ⟨w.heap.size, 2, none⟩ = some (.slice s.a2 l.unders.length s.c2) ∧ W.cell? ⟨w.heap.size, 3, none⟩ = some (.slice s.a3 l.instrs.length s.c3) ∧ W.cell? ⟨w.heap.size, 4, none⟩ = some (.slice s.a4 l.accts.length s.c4) ∧ W.cell? ⟨w.heap.size, 5, none⟩ = some (.slice s.a5 l.poss.length s.c5) ∧ W.cell? ⟨w.heap.size, 6, none⟩ = some (.slice s.a6 l.orders.length s.c6) ∧ W.cell? ⟨w.heap.size, 7, none⟩ = some (.slice s.a7 l.avail.length s.c7) ∧ W.cell? ⟨w.heap.size, 8, none⟩ = some (.slice s.a8 l.locs.length s.c8) ∧ W.cell? ⟨w.heap.size + 1, 0, none⟩ = some (.int .i64 m.day) ∧ W.cell? ⟨w.heap.size + 1, 1, none⟩ = some (.slice r.a1 m.curs.length r.c1) ∧ W.cell? ⟨w.heap.size + 1, 2, none⟩ = some (.slice r.a2 m.unders.length r.c2) ∧ W.cell? ⟨w.heap.size + 1, 3, none⟩ = some (.slice r.a3 m.instrs.length r.c3) ∧ W.cell? ⟨w.heap.size + 1, 4, none⟩ = some (.slice r.a4 m.accts.length r.c4) ∧ W.cell? ⟨w.heap.size + 1, 5, none⟩ = some (.slice r.a5 m.poss.length r.c5) ∧ W.cell? ⟨w.heap.size + 1, 6, none⟩ = some (.slice r.a6 m.orders.length r.c6) ∧ W.cell? ⟨w.heap.size + 1, 7, none⟩ = some (.slice r.a7 m.avail.length r.c7) ∧ W.cell? ⟨w.heap.size + 1, 8, none⟩ = some (.slice r.a8 m.locs.length r.c8) ∧ UB w W s l vs r m us x y ∧ Below w6.heap.size w6 W) (by kernel_rfl) (by kernel_rfl) ⟨X00.1.led.one.box.cell 0, X00.1.led.one.box.cell 1, X00.1.led.one.box.cell 2, X00.1.led.one.box.cell 3, X00.1.led.one.box.cell 4, X00.1.led.one.box.cell 5, X00.1.led.one.box.cell 6, X00.1.led.one.box.cell 7, X00.1.led.one.box.cell 8, X00.1.led.two.box.cell 0, X00.1.led.two.box.cell 1, X00.1.led.two.box.cell 2, X00.1.led.two.box.cell 3, X00.1.led.two.box.cell 4, X00.1.led.two.box.cell 5, X00.1.led.two.box.cell 6, X00.1.led.two.box.cell 7, X00.1.led.two.box.cell 8, X00⟩ ?_
      clear X00 Z6
      repeat first
        | (refine' kept_go _ _ (fun W hW => _) _; rotate_left; (focus (go_simp; done)); (refine ⟨?_⟩; obtain ⟨k1, k2, k3, k4, k5, k6, k7, k8, k9, k10, k11, k12, k13, k14, k15, k16, k17, k18, X9⟩ := hW; go_simp; first | done | (with_reducible rfl) | (go_at_call 13; refine (S1.out _ X9).mono ?_; rintro e w2 ⟨rfl, hn8⟩; have Y := (⟨X9.1.keep (bel_of hn8), X9.2.trans ((bel_of hn8).mono X9.2.size)⟩ : UB w w2 s l vs r m us x y ∧ Below w6.heap.size w6 w2); refine And.intro ?_ ⟨Y.1.led.one.box.cell 0, Y.1.led.one.box.cell 1, Y.1.led.one.box.cell 2, Y.1.led.one.box.cell 3, Y.1.led.one.box.cell 4, Y.1.led.one.box.cell 5, Y.1.led.one.box.cell 6, Y.1.led.one.box.cell 7, Y.1.led.one.box.cell 8, Y.1.led.two.box.cell 0, Y.1.led.two.box.cell 1, Y.1.led.two.box.cell 2, Y.1.led.two.box.cell 3, Y.1.led.two.box.cell 4, Y.1.led.two.box.cell 5, Y.1.led.two.box.cell 6, Y.1.led.two.box.cell 7, Y.1.led.two.box.cell 8, Y⟩; with_reducible rfl) | (go_at_call 14; refine (HL.out _ X9.1).mono ?_; rintro e w2 ⟨rfl, y8⟩; have Y := (⟨X9.1.keep y8, X9.2.trans (y8.mono X9.2.size)⟩ : UB w w2 s l vs r m us x y ∧ Below w6.heap.size w6 w2); refine And.intro ?_ ⟨Y.1.led.one.box.cell 0, Y.1.led.one.box.cell 1, Y.1.led.one.box.cell 2, Y.1.led.one.box.cell 3, Y.1.led.one.box.cell 4, Y.1.led.one.box.cell 5, Y.1.led.one.box.cell 6, Y.1.led.one.box.cell 7, Y.1.led.one.box.cell 8, Y.1.led.two.box.cell 0, Y.1.led.two.box.cell 1, Y.1.led.two.box.cell 2, Y.1.led.two.box.cell 3, Y.1.led.two.box.cell 4, Y.1.led.two.box.cell 5, Y.1.led.two.box.cell 6, Y.1.led.two.box.cell 7, Y.1.led.two.box.cell 8, Y⟩; with_reducible rfl)); simp only [Act.put, List.setIfInBounds_toArray, List.set_cons_zero, List.set_cons_succ])
        | (refine kept_skip ?_ ?_; (focus (first | (go_simp; done) | kernel_rfl)); simp only [Act.put, List.setIfInBounds_toArray, List.set_cons_zero, List.set_cons_succ])
      refine kept_end ?_
      rintro w7 ⟨k1, k2, k3, k4, k5, k6, k7, k8, k9, k10, k11, k12, k13, k14, k15, k16, k17, k18, X9⟩
      have X7 := Lib.hid X9.1
      clear k1 k2 k3 k4 k5 k6 k7 k8 k9 k10 k11 k12 k13 k14 k15 k16 k17 k18 X9 S1 B5 A6 X6 z1 z2 HL
      have hbb : (b != b) = false := by cases b <;> rfl
      go_upto_region 9 with fail
      have X8 := Lib.hid X7.out
      clear X7
      have i0 : w7.cell? ⟨w.heap.size + 2, 0, none⟩ = some (.int .i64 x.kind) := X8.out.ev.cell 0
      have i1 : w7.cell? ⟨w.heap.size + 2, 1, none⟩ = some (.int .i64 x.acct) := X8.out.ev.cell 1
      have i2 : w7.cell? ⟨w.heap.size + 2, 2, none⟩ = some (.int .i64 x.id) := X8.out.ev.cell 2
      have i3 : w7.cell? ⟨w.heap.size + 2, 3, none⟩ = some (.int .i64 x.new) := X8.out.ev.cell 3
      have i4 : w7.cell? ⟨w.heap.size + 2, 4, none⟩ = some (.int .i64 x.instr) := X8.out.ev.cell 4
      have i5 : w7.cell? ⟨w.heap.size + 2, 5, none⟩ = some (.int .i64 x.under) := X8.out.ev.cell 5
      have i6 : w7.cell? ⟨w.heap.size + 2, 6, none⟩ = some (.int .i64 x.cur) := X8.out.ev.cell 6
      have i7 : w7.cell? ⟨w.heap.size + 2, 7, none⟩ = some (.int .i64 x.qty) := X8.out.ev.cell 7
      have i8 : w7.cell? ⟨w.heap.size + 2, 8, none⟩ = some (.int .i64 x.price) := X8.out.ev.cell 8
      have i9 : w7.cell? ⟨w.heap.size + 2, 9, none⟩ = some (.int .i64 x.amount) := X8.out.ev.cell 9
      have i10 : w7.cell? ⟨w.heap.size + 2, 10, none⟩ = some (.bool x.call) := X8.out.ev.cell 10
      have i11 : w7.cell? ⟨w.heap.size + 2, 11, none⟩ = some (.string ⟨x.name.toArray⟩) := X8.out.ev.cell 11
      rcases event_cases x with ex | ⟨c1, ex, hc1⟩
      · rw [ex] at HX z3
        have EX := Lib.hid ex
        clear ex
        rcases event_cases y with ey | ⟨c2, ey, hc2⟩
        · rw [ey] at HY z4
          clear ey EX
          have hd : decide (encE x = encE y) = decide (x = y) := decide_eq_decide.2 ⟨HE.out, fun h => by rw [h]⟩
          generalize encE x = p1 at *
          generalize encE y = p2 at *
          clear HE
          go_upto_region 10 with (go_at_call 11; refine (HX.out _).mono ?_; rintro e w9 ⟨o9, rfl, own9, b9⟩)
          have X9 := Lib.hid (X8.out.keep b9)
          obtain ⟨a9, c9, rfl, _, _, at9, _, _⟩ := at_of_owns own9
          have A9 := Lib.hid at9
          clear i0 i1 i2 i3 i4 i5 i6 i7 i8 i9 i10 i11 X8 b9 own9 HX at9
          have i12 : w9.cell? ⟨w.heap.size + 2, 12, none⟩ = some (.int .i64 y.kind) := X9.out.ev.cell 12
          have i13 : w9.cell? ⟨w.heap.size + 2, 13, none⟩ = some (.int .i64 y.acct) := X9.out.ev.cell 13
          have i14 : w9.cell? ⟨w.heap.size + 2, 14, none⟩ = some (.int .i64 y.id) := X9.out.ev.cell 14
          have i15 : w9.cell? ⟨w.heap.size + 2, 15, none⟩ = some (.int .i64 y.new) := X9.out.ev.cell 15
          have i16 : w9.cell? ⟨w.heap.size + 2, 16, none⟩ = some (.int .i64 y.instr) := X9.out.ev.cell 16
          have i17 : w9.cell? ⟨w.heap.size + 2, 17, none⟩ = some (.int .i64 y.under) := X9.out.ev.cell 17
          have i18 : w9.cell? ⟨w.heap.size + 2, 18, none⟩ = some (.int .i64 y.cur) := X9.out.ev.cell 18
          have i19 : w9.cell? ⟨w.heap.size + 2, 19, none⟩ = some (.int .i64 y.qty) := X9.out.ev.cell 19
          have i20 : w9.cell? ⟨w.heap.size + 2, 20, none⟩ = some (.int .i64 y.price) := X9.out.ev.cell 20
          have i21 : w9.cell? ⟨w.heap.size + 2, 21, none⟩ = some (.int .i64 y.amount) := X9.out.ev.cell 21
          have i22 : w9.cell? ⟨w.heap.size + 2, 22, none⟩ = some (.bool y.call) := X9.out.ev.cell 22
          have i23 : w9.cell? ⟨w.heap.size + 2, 23, none⟩ = some (.string ⟨y.name.toArray⟩) := X9.out.ev.cell 23
          go_upto_region 11 with (go_at_call 11; refine (HY.out _).mono ?_; rintro e w10 ⟨o10, rfl, own10, b10⟩)
          have X10 := Lib.hid (X9.out.keep b10)
          have B9 := Lib.hid (A9.out.keep b10)
          obtain ⟨a10, c10, rfl, _, _, at10, _, _⟩ := at_of_owns own10
          have A10 := Lib.hid at10
          clear i12 i13 i14 i15 i16 i17 i18 i19 i20 i21 i22 i23 X9 b10 own10 HY at10 A9
          have S2 := Lib.hid (fun W (b : UB w W s l vs r m us x y ∧ Below w10.heap.size w10 W) => isame_calls a9 a10 c9 c10 p1 p2 W z3.out z4.out (B9.out.keep b.2) (A10.out.keep b.2))
          simp only [hd] at S2
          clear hd
          have HQ2 := HQ.out
          clear HQ
          generalize decide (x = y) = b at S2 HQ2
          have Z10 : UB w w10.drew s l vs r m us x y ∧ Below w10.heap.size w10 w10.drew := ⟨X10.out.drew, bel_of ⟨1, rfl⟩⟩
          have X00 := Z10
          refine kept_region (fun W => W.cell? ⟨w.heap.size + 2, 0, none⟩ = some (.int .i64 x.kind) ∧ W.cell? ⟨w.heap.size + 2, 1, none⟩ = some (.int .i64 x.acct) ∧ W.cell? ⟨w.heap.size + 2, 2, none⟩ = some (.int .i64 x.id) ∧ W.cell? ⟨w.heap.size + 2, 3, none⟩ = some (.int .i64 x.new) ∧ W.cell? ⟨w.heap.size + 2, 4, none⟩ = some (.int .i64 x.instr) ∧ W.cell? ⟨w.heap.size + 2, 5, none⟩ = some (.int .i64 x.under) ∧ W.cell? ⟨w.heap.size + 2, 6, none⟩ = some (.int .i64 x.cur) ∧ W.cell? ⟨w.heap.size + 2, 7, none⟩ = some (.int .i64 x.qty) ∧ W.cell? ⟨w.heap.size + 2, 8, none⟩ = some (.int .i64 x.price) ∧ W.cell? ⟨w.heap.size + 2, 9, none⟩ = some (.int .i64 x.amount) ∧ W.cell? ⟨w.heap.size + 2, 10, none⟩ = some (.bool x.call) ∧ W.cell? ⟨w.heap.size + 2, 11, none⟩ = some (.string ⟨x.name.toArray⟩) ∧ W.cell? ⟨w.heap.size + 2, 12, none⟩ = some (.int .i64 y.kind) ∧ W.cell? ⟨w.heap.size + 2, 13, none⟩ = some (.int .i64 y.acct) ∧ W.cell? ⟨w.heap.size + 2, 14, none⟩ = some (.int .i64 y.id) ∧ W.cell? ⟨w.heap.size + 2, 15, none⟩ = some (.int .i64 y.new) ∧ W.cell? ⟨w.heap.size + 2, 16, none⟩ = some (.int .i64 y.instr) ∧ W.cell? ⟨w.heap.size + 2, 17, none⟩ = some (.int .i64 y.under) ∧ W.cell? ⟨w.heap.size + 2, 18, none⟩ = some (.int .i64 y.cur) ∧ W.cell? ⟨w.heap.size + 2, 19, none⟩ = some (.int .i64 y.qty) ∧ W.cell? ⟨w.heap.size + 2, 20, none⟩ = some (.int .i64 y.price) ∧ W.cell? ⟨w.heap.size + 2, 21, none⟩ = some (.int .i64 y.amount) ∧ W.cell? ⟨w.heap.size + 2, 22, none⟩ = some (.bool y.call) ∧ W.cell? ⟨w.heap.size + 2, 23, none⟩ = some (.string ⟨y.name.toArray⟩) ∧ UB w W s l vs r m us x y ∧ Below w10.heap.size w10 W) (by kernel_rfl) (by kernel_rfl) ⟨X00.1.ev.cell 0, X00.1.ev.cell 1, X00.1.ev.cell 2, X00.1.ev.cell 3, X00.1.ev.cell 4, X00.1.ev.cell 5, X00.1.ev.cell 6, X00.1.ev.cell 7, X00.1.ev.cell 8, X00.1.ev.cell 9, X00.1.ev.cell 10, X00.1.ev.cell 11, X00.1.ev.cell 12, X00.1.ev.cell 13, X00.1.ev.cell 14, X00.1.ev.cell 15, X00.1.ev.cell 16, X00.1.ev.cell 17, X00.1.ev.cell 18, X00.1.ev.cell 19, X00.1.ev.cell 20, X00.1.ev.cell 21, X00.1.ev.cell 22, X00.1.ev.cell 23, X00⟩ ?_
          clear X00 Z10
          repeat first
            | (refine' kept_go _ _ (fun W hW => _) _; rotate_left; (focus (go_simp; done)); (refine ⟨?_⟩; obtain ⟨k1, k2, k3, k4, k5, k6, k7, k8, k9, k10, k11, k12, k13, k14, k15, k16, k17, k18, k19, k20, k21, k22, k23, k24, X9⟩ := hW; go_simp; first | done | (with_reducible rfl) | (go_at_call 13; refine (S2.out _ X9).mono ?_; rintro e w2 ⟨rfl, hn8⟩; have Y := (⟨X9.1.keep (bel_of hn8), X9.2.trans ((bel_of hn8).mono X9.2.size)⟩ : UB w w2 s l vs r m us x y ∧ Below w10.heap.size w10 w2); refine And.intro ?_ ⟨Y.1.ev.cell 0, Y.1.ev.cell 1, Y.1.ev.cell 2, Y.1.ev.cell 3, Y.1.ev.cell 4, Y.1.ev.cell 5, Y.1.ev.cell 6, Y.1.ev.cell 7, Y.1.ev.cell 8, Y.1.ev.cell 9, Y.1.ev.cell 10, Y.1.ev.cell 11, Y.1.ev.cell 12, Y.1.ev.cell 13, Y.1.ev.cell 14, Y.1.ev.cell 15, Y.1.ev.cell 16, Y.1.ev.cell 17, Y.1.ev.cell 18, Y.1.ev.cell 19, Y.1.ev.cell 20, Y.1.ev.cell 21, Y.1.ev.cell 22, Y.1.ev.cell 23, Y⟩; with_reducible rfl)); simp only [Act.put, List.setIfInBounds_toArray, List.set_cons_zero, List.set_cons_succ])
            | (refine kept_skip ?_ ?_; (focus (first | (go_simp; done) | kernel_rfl)); simp only [Act.put, List.setIfInBounds_toArray, List.set_cons_zero, List.set_cons_succ])
          refine kept_end ?_
          rintro w11 ⟨k1, k2, k3, k4, k5, k6, k7, k8, k9, k10, k11, k12, k13, k14, k15, k16, k17, k18, k19, k20, k21, k22, k23, k24, X9⟩
          cases b
          all_goals
            go_wp2_with fail
            go_ret
            exact ⟨rfl, X9.1.led.one.low⟩
        · rw [ey] at HY z4
          clear ey EX
          generalize encE x = p1 at *
          clear HE
          go_upto_region 10 with (go_at_call 11; refine (HX.out _).mono ?_; rintro e w9 ⟨o9, rfl, own9, b9⟩)
          have X9 := Lib.hid (X8.out.keep b9)
          obtain ⟨a9, c9, rfl, _, _, at9, _, _⟩ := at_of_owns own9
          have A9 := Lib.hid at9
          clear i0 i1 i2 i3 i4 i5 i6 i7 i8 i9 i10 i11 X8 b9 own9 HX at9
          have i12 : w9.cell? ⟨w.heap.size + 2, 12, none⟩ = some (.int .i64 y.kind) := X9.out.ev.cell 12
          have i13 : w9.cell? ⟨w.heap.size + 2, 13, none⟩ = some (.int .i64 y.acct) := X9.out.ev.cell 13
          have i14 : w9.cell? ⟨w.heap.size + 2, 14, none⟩ = some (.int .i64 y.id) := X9.out.ev.cell 14
          have i15 : w9.cell? ⟨w.heap.size + 2, 15, none⟩ = some (.int .i64 y.new) := X9.out.ev.cell 15
          have i16 : w9.cell? ⟨w.heap.size + 2, 16, none⟩ = some (.int .i64 y.instr) := X9.out.ev.cell 16
          have i17 : w9.cell? ⟨w.heap.size + 2, 17, none⟩ = some (.int .i64 y.under) := X9.out.ev.cell 17
          have i18 : w9.cell? ⟨w.heap.size + 2, 18, none⟩ = some (.int .i64 y.cur) := X9.out.ev.cell 18
          have i19 : w9.cell? ⟨w.heap.size + 2, 19, none⟩ = some (.int .i64 y.qty) := X9.out.ev.cell 19
          have i20 : w9.cell? ⟨w.heap.size + 2, 20, none⟩ = some (.int .i64 y.price) := X9.out.ev.cell 20
          have i21 : w9.cell? ⟨w.heap.size + 2, 21, none⟩ = some (.int .i64 y.amount) := X9.out.ev.cell 21
          have i22 : w9.cell? ⟨w.heap.size + 2, 22, none⟩ = some (.bool y.call) := X9.out.ev.cell 22
          have i23 : w9.cell? ⟨w.heap.size + 2, 23, none⟩ = some (.string ⟨y.name.toArray⟩) := X9.out.ev.cell 23
          go_upto_region 11 with (go_at_call 11; refine (HY.out _).mono ?_; rintro e w10 ⟨o10, rfl, own10, b10⟩)
          have X10 := Lib.hid (X9.out.keep b10)
          have B9 := Lib.hid (A9.out.keep b10)
          obtain ⟨a10, c10, rfl, _, _, at10, _, _⟩ := at_of_owns own10
          have A10 := Lib.hid at10
          clear i12 i13 i14 i15 i16 i17 i18 i19 i20 i21 i22 i23 X9 b10 own10 HY at10 A9
          have X00 := X10.out.drew
          refine kept_region (fun W => W.cell? ⟨w.heap.size + 2, 0, none⟩ = some (.int .i64 x.kind) ∧ W.cell? ⟨w.heap.size + 2, 1, none⟩ = some (.int .i64 x.acct) ∧ W.cell? ⟨w.heap.size + 2, 2, none⟩ = some (.int .i64 x.id) ∧ W.cell? ⟨w.heap.size + 2, 3, none⟩ = some (.int .i64 x.new) ∧ W.cell? ⟨w.heap.size + 2, 4, none⟩ = some (.int .i64 x.instr) ∧ W.cell? ⟨w.heap.size + 2, 5, none⟩ = some (.int .i64 x.under) ∧ W.cell? ⟨w.heap.size + 2, 6, none⟩ = some (.int .i64 x.cur) ∧ W.cell? ⟨w.heap.size + 2, 7, none⟩ = some (.int .i64 x.qty) ∧ W.cell? ⟨w.heap.size + 2, 8, none⟩ = some (.int .i64 x.price) ∧ W.cell? ⟨w.heap.size + 2, 9, none⟩ = some (.int .i64 x.amount) ∧ W.cell? ⟨w.heap.size + 2, 10, none⟩ = some (.bool x.call) ∧ W.cell? ⟨w.heap.size + 2, 11, none⟩ = some (.string ⟨x.name.toArray⟩) ∧ W.cell? ⟨w.heap.size + 2, 12, none⟩ = some (.int .i64 y.kind) ∧ W.cell? ⟨w.heap.size + 2, 13, none⟩ = some (.int .i64 y.acct) ∧ W.cell? ⟨w.heap.size + 2, 14, none⟩ = some (.int .i64 y.id) ∧ W.cell? ⟨w.heap.size + 2, 15, none⟩ = some (.int .i64 y.new) ∧ W.cell? ⟨w.heap.size + 2, 16, none⟩ = some (.int .i64 y.instr) ∧ W.cell? ⟨w.heap.size + 2, 17, none⟩ = some (.int .i64 y.under) ∧ W.cell? ⟨w.heap.size + 2, 18, none⟩ = some (.int .i64 y.cur) ∧ W.cell? ⟨w.heap.size + 2, 19, none⟩ = some (.int .i64 y.qty) ∧ W.cell? ⟨w.heap.size + 2, 20, none⟩ = some (.int .i64 y.price) ∧ W.cell? ⟨w.heap.size + 2, 21, none⟩ = some (.int .i64 y.amount) ∧ W.cell? ⟨w.heap.size + 2, 22, none⟩ = some (.bool y.call) ∧ W.cell? ⟨w.heap.size + 2, 23, none⟩ = some (.string ⟨y.name.toArray⟩) ∧ UB w W s l vs r m us x y) (by kernel_rfl) (by kernel_rfl) ⟨X00.ev.cell 0, X00.ev.cell 1, X00.ev.cell 2, X00.ev.cell 3, X00.ev.cell 4, X00.ev.cell 5, X00.ev.cell 6, X00.ev.cell 7, X00.ev.cell 8, X00.ev.cell 9, X00.ev.cell 10, X00.ev.cell 11, X00.ev.cell 12, X00.ev.cell 13, X00.ev.cell 14, X00.ev.cell 15, X00.ev.cell 16, X00.ev.cell 17, X00.ev.cell 18, X00.ev.cell 19, X00.ev.cell 20, X00.ev.cell 21, X00.ev.cell 22, X00.ev.cell 23, X00⟩ ?_
          clear X00
          repeat first
            | (refine' kept_go _ _ (fun W hW => _) _; rotate_left; (focus (go_simp; done)); (refine ⟨?_⟩; obtain ⟨k1, k2, k3, k4, k5, k6, k7, k8, k9, k10, k11, k12, k13, k14, k15, k16, k17, k18, k19, k20, k21, k22, k23, k24, X9⟩ := hW; go_simp; first | done | (with_reducible rfl)); simp only [Act.put, List.setIfInBounds_toArray, List.set_cons_zero, List.set_cons_succ])
            | (refine kept_skip ?_ ?_; (focus (first | (go_simp; done) | kernel_rfl)); simp only [Act.put, List.setIfInBounds_toArray, List.set_cons_zero, List.set_cons_succ])
          refine kept_end ?_
          rintro w11 ⟨k1, k2, k3, k4, k5, k6, k7, k8, k9, k10, k11, k12, k13, k14, k15, k16, k17, k18, k19, k20, k21, k22, k23, k24, X9⟩
          go_wp2_with fail
          go_ret
          exact ⟨rfl, X9.led.one.low⟩
      · rw [ex] at HX z3
        clear ex
        generalize eventF y = p at HY z4
        obtain ⟨p1, p2⟩ := p
        clear HE
        go_upto_region 10 with (go_at_call 11; refine (HX.out _).mono ?_; rintro e w9 ⟨o9, rfl, own9, b9⟩)
        have X9 := Lib.hid (X8.out.keep b9)
        obtain ⟨a9, c9, rfl, _, _, at9, _, _⟩ := at_of_owns own9
        have A9 := Lib.hid at9
        clear i0 i1 i2 i3 i4 i5 i6 i7 i8 i9 i10 i11 X8 b9 own9 HX at9
        have i12 : w9.cell? ⟨w.heap.size + 2, 12, none⟩ = some (.int .i64 y.kind) := X9.out.ev.cell 12
        have i13 : w9.cell? ⟨w.heap.size + 2, 13, none⟩ = some (.int .i64 y.acct) := X9.out.ev.cell 13
        have i14 : w9.cell? ⟨w.heap.size + 2, 14, none⟩ = some (.int .i64 y.id) := X9.out.ev.cell 14
        have i15 : w9.cell? ⟨w.heap.size + 2, 15, none⟩ = some (.int .i64 y.new) := X9.out.ev.cell 15
        have i16 : w9.cell? ⟨w.heap.size + 2, 16, none⟩ = some (.int .i64 y.instr) := X9.out.ev.cell 16
        have i17 : w9.cell? ⟨w.heap.size + 2, 17, none⟩ = some (.int .i64 y.under) := X9.out.ev.cell 17
        have i18 : w9.cell? ⟨w.heap.size + 2, 18, none⟩ = some (.int .i64 y.cur) := X9.out.ev.cell 18
        have i19 : w9.cell? ⟨w.heap.size + 2, 19, none⟩ = some (.int .i64 y.qty) := X9.out.ev.cell 19
        have i20 : w9.cell? ⟨w.heap.size + 2, 20, none⟩ = some (.int .i64 y.price) := X9.out.ev.cell 20
        have i21 : w9.cell? ⟨w.heap.size + 2, 21, none⟩ = some (.int .i64 y.amount) := X9.out.ev.cell 21
        have i22 : w9.cell? ⟨w.heap.size + 2, 22, none⟩ = some (.bool y.call) := X9.out.ev.cell 22
        have i23 : w9.cell? ⟨w.heap.size + 2, 23, none⟩ = some (.string ⟨y.name.toArray⟩) := X9.out.ev.cell 23
        go_upto_region 11 with (go_at_call 11; refine (HY.out _).mono ?_; rintro e w10 ⟨o10, rfl, own10, b10⟩)
        have X10 := Lib.hid (X9.out.keep b10)
        have B9 := Lib.hid (A9.out.keep b10)
        obtain ⟨a10, c10, rfl, _, _, at10, _, _⟩ := at_of_owns own10
        have A10 := Lib.hid at10
        clear i12 i13 i14 i15 i16 i17 i18 i19 i20 i21 i22 i23 X9 b10 own10 HY at10 A9
        have X00 := X10.out.drew
        refine kept_region (fun W => W.cell? ⟨w.heap.size + 2, 0, none⟩ = some (.int .i64 x.kind) ∧ W.cell? ⟨w.heap.size + 2, 1, none⟩ = some (.int .i64 x.acct) ∧ W.cell? ⟨w.heap.size + 2, 2, none⟩ = some (.int .i64 x.id) ∧ W.cell? ⟨w.heap.size + 2, 3, none⟩ = some (.int .i64 x.new) ∧ W.cell? ⟨w.heap.size + 2, 4, none⟩ = some (.int .i64 x.instr) ∧ W.cell? ⟨w.heap.size + 2, 5, none⟩ = some (.int .i64 x.under) ∧ W.cell? ⟨w.heap.size + 2, 6, none⟩ = some (.int .i64 x.cur) ∧ W.cell? ⟨w.heap.size + 2, 7, none⟩ = some (.int .i64 x.qty) ∧ W.cell? ⟨w.heap.size + 2, 8, none⟩ = some (.int .i64 x.price) ∧ W.cell? ⟨w.heap.size + 2, 9, none⟩ = some (.int .i64 x.amount) ∧ W.cell? ⟨w.heap.size + 2, 10, none⟩ = some (.bool x.call) ∧ W.cell? ⟨w.heap.size + 2, 11, none⟩ = some (.string ⟨x.name.toArray⟩) ∧ W.cell? ⟨w.heap.size + 2, 12, none⟩ = some (.int .i64 y.kind) ∧ W.cell? ⟨w.heap.size + 2, 13, none⟩ = some (.int .i64 y.acct) ∧ W.cell? ⟨w.heap.size + 2, 14, none⟩ = some (.int .i64 y.id) ∧ W.cell? ⟨w.heap.size + 2, 15, none⟩ = some (.int .i64 y.new) ∧ W.cell? ⟨w.heap.size + 2, 16, none⟩ = some (.int .i64 y.instr) ∧ W.cell? ⟨w.heap.size + 2, 17, none⟩ = some (.int .i64 y.under) ∧ W.cell? ⟨w.heap.size + 2, 18, none⟩ = some (.int .i64 y.cur) ∧ W.cell? ⟨w.heap.size + 2, 19, none⟩ = some (.int .i64 y.qty) ∧ W.cell? ⟨w.heap.size + 2, 20, none⟩ = some (.int .i64 y.price) ∧ W.cell? ⟨w.heap.size + 2, 21, none⟩ = some (.int .i64 y.amount) ∧ W.cell? ⟨w.heap.size + 2, 22, none⟩ = some (.bool y.call) ∧ W.cell? ⟨w.heap.size + 2, 23, none⟩ = some (.string ⟨y.name.toArray⟩) ∧ UB w W s l vs r m us x y) (by kernel_rfl) (by kernel_rfl) ⟨X00.ev.cell 0, X00.ev.cell 1, X00.ev.cell 2, X00.ev.cell 3, X00.ev.cell 4, X00.ev.cell 5, X00.ev.cell 6, X00.ev.cell 7, X00.ev.cell 8, X00.ev.cell 9, X00.ev.cell 10, X00.ev.cell 11, X00.ev.cell 12, X00.ev.cell 13, X00.ev.cell 14, X00.ev.cell 15, X00.ev.cell 16, X00.ev.cell 17, X00.ev.cell 18, X00.ev.cell 19, X00.ev.cell 20, X00.ev.cell 21, X00.ev.cell 22, X00.ev.cell 23, X00⟩ ?_
        clear X00
        repeat first
          | (refine' kept_go _ _ (fun W hW => _) _; rotate_left; (focus (go_simp; done)); (refine ⟨?_⟩; obtain ⟨k1, k2, k3, k4, k5, k6, k7, k8, k9, k10, k11, k12, k13, k14, k15, k16, k17, k18, k19, k20, k21, k22, k23, k24, X9⟩ := hW; go_simp; first | done | (with_reducible rfl)); simp only [Act.put, List.setIfInBounds_toArray, List.set_cons_zero, List.set_cons_succ])
          | (refine kept_skip ?_ ?_; (focus (first | (go_simp; done) | kernel_rfl)); simp only [Act.put, List.setIfInBounds_toArray, List.set_cons_zero, List.set_cons_succ])
        refine kept_end ?_
        rintro w11 ⟨k1, k2, k3, k4, k5, k6, k7, k8, k9, k10, k11, k12, k13, k14, k15, k16, k17, k18, k19, k20, k21, k22, k23, k24, X9⟩
        go_wp2_with fail
        go_ret
        exact ⟨rfl, X9.led.one.low⟩
    · rw [em] at HB z2
      clear em
      clear gl
      generalize encL l = q1 at *
      clear HJ
      go_upto_region 6 with (go_at_call 9; refine (HA.out _ X4.out.led.one.at_).mono ?_; rintro e w5 ⟨o5, rfl, own5, b5⟩)
      have X5 := Lib.hid (X4.out.keep b5)
      obtain ⟨a5, c5, rfl, _, _, at5, _, _⟩ := at_of_owns own5
      have A5 := Lib.hid at5
      clear k0 k1 k2 k3 k4 k5 k6 k7 k8 X4 b5 own5 HA at5
      have j0 : w5.cell? ⟨w.heap.size + 1, 0, none⟩ = some (.int .i64 m.day) := X5.out.led.two.box.cell 0
      have j1 : w5.cell? ⟨w.heap.size + 1, 1, none⟩ = some (.slice r.a1 m.curs.length r.c1) := X5.out.led.two.box.cell 1
      have j2 : w5.cell? ⟨w.heap.size + 1, 2, none⟩ = some (.slice r.a2 m.unders.length r.c2) := X5.out.led.two.box.cell 2
      have j3 : w5.cell? ⟨w.heap.size + 1, 3, none⟩ = some (.slice r.a3 m.instrs.length r.c3) := X5.out.led.two.box.cell 3
      have j4 : w5.cell? ⟨w.heap.size + 1, 4, none⟩ = some (.slice r.a4 m.accts.length r.c4) := X5.out.led.two.box.cell 4
      have j5 : w5.cell? ⟨w.heap.size + 1, 5, none⟩ = some (.slice r.a5 m.poss.length r.c5) := X5.out.led.two.box.cell 5
      have j6 : w5.cell? ⟨w.heap.size + 1, 6, none⟩ = some (.slice r.a6 m.orders.length r.c6) := X5.out.led.two.box.cell 6
      have j7 : w5.cell? ⟨w.heap.size + 1, 7, none⟩ = some (.slice r.a7 m.avail.length r.c7) := X5.out.led.two.box.cell 7
      have j8 : w5.cell? ⟨w.heap.size + 1, 8, none⟩ = some (.slice r.a8 m.locs.length r.c8) := X5.out.led.two.box.cell 8
      go_upto_region 7 with (go_at_call 9; refine (HB.out _ X5.out.led.two.at_).mono ?_; rintro e w6 ⟨o6, rfl, own6, b6⟩)
      have X6 := Lib.hid (X5.out.keep b6)
      have B5 := Lib.hid (A5.out.keep b6)
      obtain ⟨a6, c6, rfl, _, _, at6, _, _⟩ := at_of_owns own6
      have A6 := Lib.hid at6
      clear j0 j1 j2 j3 j4 j5 j6 j7 j8 X5 b6 own6 HB at6 A5
      have X00 := X6.out.drew
      refine kept_region (fun W => W.cell? ⟨w.heap.size, 0, none⟩ = some (.int .i64 l.day) ∧ W.cell? ⟨w.heap.size, 1, none⟩ = some (.slice s.a1 l.curs.length s.c1) ∧ W.cell? ⟨w.heap.size, 2, none⟩ = some (.slice s.a2 l.unders.length s.c2) ∧ W.cell? ⟨w.heap.size, 3, none⟩ = some (.slice s.a3 l.instrs.length s.c3) ∧ W.cell? ⟨w.heap.size, 4, none⟩ = some (.slice s.a4 l.accts.length s.c4) ∧ W.cell? ⟨w.heap.size, 5, none⟩ = some (.slice s.a5 l.poss.length s.c5) ∧ W.cell? ⟨w.heap.size, 6, none⟩ = some (.slice s.a6 l.orders.length s.c6) ∧ W.cell? ⟨w.heap.size, 7, none⟩ = some (.slice s.a7 l.avail.length s.c7) ∧ W.cell? ⟨w.heap.size, 8, none⟩ = some (.slice s.a8 l.locs.length s.c8) ∧ W.cell? ⟨w.heap.size + 1, 0, none⟩ = some (.int .i64 m.day) ∧ W.cell? ⟨w.heap.size + 1, 1, none⟩ = some (.slice r.a1 m.curs.length r.c1) ∧ W.cell? ⟨w.heap.size + 1, 2, none⟩ = some (.slice r.a2 m.unders.length r.c2) ∧ W.cell? ⟨w.heap.size + 1, 3, none⟩ = some (.slice r.a3 m.instrs.length r.c3) ∧ W.cell? ⟨w.heap.size + 1, 4, none⟩ = some (.slice r.a4 m.accts.length r.c4) ∧ W.cell? ⟨w.heap.size + 1, 5, none⟩ = some (.slice r.a5 m.poss.length r.c5) ∧ W.cell? ⟨w.heap.size + 1, 6, none⟩ = some (.slice r.a6 m.orders.length r.c6) ∧ W.cell? ⟨w.heap.size + 1, 7, none⟩ = some (.slice r.a7 m.avail.length r.c7) ∧ W.cell? ⟨w.heap.size + 1, 8, none⟩ = some (.slice r.a8 m.locs.length r.c8) ∧ UB w W s l vs r m us x y) (by kernel_rfl) (by kernel_rfl) ⟨X00.led.one.box.cell 0, X00.led.one.box.cell 1, X00.led.one.box.cell 2, X00.led.one.box.cell 3, X00.led.one.box.cell 4, X00.led.one.box.cell 5, X00.led.one.box.cell 6, X00.led.one.box.cell 7, X00.led.one.box.cell 8, X00.led.two.box.cell 0, X00.led.two.box.cell 1, X00.led.two.box.cell 2, X00.led.two.box.cell 3, X00.led.two.box.cell 4, X00.led.two.box.cell 5, X00.led.two.box.cell 6, X00.led.two.box.cell 7, X00.led.two.box.cell 8, X00⟩ ?_
      clear X00
      repeat first
        | (refine' kept_go _ _ (fun W hW => _) _; rotate_left; (focus (go_simp; done)); (refine ⟨?_⟩; obtain ⟨k1, k2, k3, k4, k5, k6, k7, k8, k9, k10, k11, k12, k13, k14, k15, k16, k17, k18, X9⟩ := hW; go_simp; first | done | (with_reducible rfl)); simp only [Act.put, List.setIfInBounds_toArray, List.set_cons_zero, List.set_cons_succ])
        | (refine kept_skip ?_ ?_; (focus (first | (go_simp; done) | kernel_rfl)); simp only [Act.put, List.setIfInBounds_toArray, List.set_cons_zero, List.set_cons_succ])
      refine kept_end ?_
      rintro w7 ⟨k1, k2, k3, k4, k5, k6, k7, k8, k9, k10, k11, k12, k13, k14, k15, k16, k17, k18, X9⟩
      have X7 := Lib.hid X9
      clear k1 k2 k3 k4 k5 k6 k7 k8 k9 k10 k11 k12 k13 k14 k15 k16 k17 k18 X9 B5 A6 X6 z1 z2 HL
      go_upto_region 9 with fail
      have X8 := Lib.hid X7.out
      clear X7
      have i0 : w7.cell? ⟨w.heap.size + 2, 0, none⟩ = some (.int .i64 x.kind) := X8.out.ev.cell 0
      have i1 : w7.cell? ⟨w.heap.size + 2, 1, none⟩ = some (.int .i64 x.acct) := X8.out.ev.cell 1
      have i2 : w7.cell? ⟨w.heap.size + 2, 2, none⟩ = some (.int .i64 x.id) := X8.out.ev.cell 2
      have i3 : w7.cell? ⟨w.heap.size + 2, 3, none⟩ = some (.int .i64 x.new) := X8.out.ev.cell 3
      have i4 : w7.cell? ⟨w.heap.size + 2, 4, none⟩ = some (.int .i64 x.instr) := X8.out.ev.cell 4
      have i5 : w7.cell? ⟨w.heap.size + 2, 5, none⟩ = some (.int .i64 x.under) := X8.out.ev.cell 5
      have i6 : w7.cell? ⟨w.heap.size + 2, 6, none⟩ = some (.int .i64 x.cur) := X8.out.ev.cell 6
      have i7 : w7.cell? ⟨w.heap.size + 2, 7, none⟩ = some (.int .i64 x.qty) := X8.out.ev.cell 7
      have i8 : w7.cell? ⟨w.heap.size + 2, 8, none⟩ = some (.int .i64 x.price) := X8.out.ev.cell 8
      have i9 : w7.cell? ⟨w.heap.size + 2, 9, none⟩ = some (.int .i64 x.amount) := X8.out.ev.cell 9
      have i10 : w7.cell? ⟨w.heap.size + 2, 10, none⟩ = some (.bool x.call) := X8.out.ev.cell 10
      have i11 : w7.cell? ⟨w.heap.size + 2, 11, none⟩ = some (.string ⟨x.name.toArray⟩) := X8.out.ev.cell 11
      rcases event_cases x with ex | ⟨c1, ex, hc1⟩
      · rw [ex] at HX z3
        have EX := Lib.hid ex
        clear ex
        rcases event_cases y with ey | ⟨c2, ey, hc2⟩
        · rw [ey] at HY z4
          clear ey EX
          have hd : decide (encE x = encE y) = decide (x = y) := decide_eq_decide.2 ⟨HE.out, fun h => by rw [h]⟩
          generalize encE x = p1 at *
          generalize encE y = p2 at *
          clear HE
          go_upto_region 10 with (go_at_call 11; refine (HX.out _).mono ?_; rintro e w9 ⟨o9, rfl, own9, b9⟩)
          have X9 := Lib.hid (X8.out.keep b9)
          obtain ⟨a9, c9, rfl, _, _, at9, _, _⟩ := at_of_owns own9
          have A9 := Lib.hid at9
          clear i0 i1 i2 i3 i4 i5 i6 i7 i8 i9 i10 i11 X8 b9 own9 HX at9
          have i12 : w9.cell? ⟨w.heap.size + 2, 12, none⟩ = some (.int .i64 y.kind) := X9.out.ev.cell 12
          have i13 : w9.cell? ⟨w.heap.size + 2, 13, none⟩ = some (.int .i64 y.acct) := X9.out.ev.cell 13
          have i14 : w9.cell? ⟨w.heap.size + 2, 14, none⟩ = some (.int .i64 y.id) := X9.out.ev.cell 14
          have i15 : w9.cell? ⟨w.heap.size + 2, 15, none⟩ = some (.int .i64 y.new) := X9.out.ev.cell 15
          have i16 : w9.cell? ⟨w.heap.size + 2, 16, none⟩ = some (.int .i64 y.instr) := X9.out.ev.cell 16
          have i17 : w9.cell? ⟨w.heap.size + 2, 17, none⟩ = some (.int .i64 y.under) := X9.out.ev.cell 17
          have i18 : w9.cell? ⟨w.heap.size + 2, 18, none⟩ = some (.int .i64 y.cur) := X9.out.ev.cell 18
          have i19 : w9.cell? ⟨w.heap.size + 2, 19, none⟩ = some (.int .i64 y.qty) := X9.out.ev.cell 19
          have i20 : w9.cell? ⟨w.heap.size + 2, 20, none⟩ = some (.int .i64 y.price) := X9.out.ev.cell 20
          have i21 : w9.cell? ⟨w.heap.size + 2, 21, none⟩ = some (.int .i64 y.amount) := X9.out.ev.cell 21
          have i22 : w9.cell? ⟨w.heap.size + 2, 22, none⟩ = some (.bool y.call) := X9.out.ev.cell 22
          have i23 : w9.cell? ⟨w.heap.size + 2, 23, none⟩ = some (.string ⟨y.name.toArray⟩) := X9.out.ev.cell 23
          go_upto_region 11 with (go_at_call 11; refine (HY.out _).mono ?_; rintro e w10 ⟨o10, rfl, own10, b10⟩)
          have X10 := Lib.hid (X9.out.keep b10)
          have B9 := Lib.hid (A9.out.keep b10)
          obtain ⟨a10, c10, rfl, _, _, at10, _, _⟩ := at_of_owns own10
          have A10 := Lib.hid at10
          clear i12 i13 i14 i15 i16 i17 i18 i19 i20 i21 i22 i23 X9 b10 own10 HY at10 A9
          have S2 := Lib.hid (fun W (b : UB w W s l vs r m us x y ∧ Below w10.heap.size w10 W) => isame_calls a9 a10 c9 c10 p1 p2 W z3.out z4.out (B9.out.keep b.2) (A10.out.keep b.2))
          simp only [hd] at S2
          clear hd
          have HQ2 := HQ.out
          clear HQ
          generalize decide (x = y) = b at S2 HQ2
          have Z10 : UB w w10.drew s l vs r m us x y ∧ Below w10.heap.size w10 w10.drew := ⟨X10.out.drew, bel_of ⟨1, rfl⟩⟩
          have X00 := Z10
          refine kept_region (fun W => W.cell? ⟨w.heap.size + 2, 0, none⟩ = some (.int .i64 x.kind) ∧ W.cell? ⟨w.heap.size + 2, 1, none⟩ = some (.int .i64 x.acct) ∧ W.cell? ⟨w.heap.size + 2, 2, none⟩ = some (.int .i64 x.id) ∧ W.cell? ⟨w.heap.size + 2, 3, none⟩ = some (.int .i64 x.new) ∧ W.cell? ⟨w.heap.size + 2, 4, none⟩ = some (.int .i64 x.instr) ∧ W.cell? ⟨w.heap.size + 2, 5, none⟩ = some (.int .i64 x.under) ∧ W.cell? ⟨w.heap.size + 2, 6, none⟩ = some (.int .i64 x.cur) ∧ W.cell? ⟨w.heap.size + 2, 7, none⟩ = some (.int .i64 x.qty) ∧ W.cell? ⟨w.heap.size + 2, 8, none⟩ = some (.int .i64 x.price) ∧ W.cell? ⟨w.heap.size + 2, 9, none⟩ = some (.int .i64 x.amount) ∧ W.cell? ⟨w.heap.size + 2, 10, none⟩ = some (.bool x.call) ∧ W.cell? ⟨w.heap.size + 2, 11, none⟩ = some (.string ⟨x.name.toArray⟩) ∧ W.cell? ⟨w.heap.size + 2, 12, none⟩ = some (.int .i64 y.kind) ∧ W.cell? ⟨w.heap.size + 2, 13, none⟩ = some (.int .i64 y.acct) ∧ W.cell? ⟨w.heap.size + 2, 14, none⟩ = some (.int .i64 y.id) ∧ W.cell? ⟨w.heap.size + 2, 15, none⟩ = some (.int .i64 y.new) ∧ W.cell? ⟨w.heap.size + 2, 16, none⟩ = some (.int .i64 y.instr) ∧ W.cell? ⟨w.heap.size + 2, 17, none⟩ = some (.int .i64 y.under) ∧ W.cell? ⟨w.heap.size + 2, 18, none⟩ = some (.int .i64 y.cur) ∧ W.cell? ⟨w.heap.size + 2, 19, none⟩ = some (.int .i64 y.qty) ∧ W.cell? ⟨w.heap.size + 2, 20, none⟩ = some (.int .i64 y.price) ∧ W.cell? ⟨w.heap.size + 2, 21, none⟩ = some (.int .i64 y.amount) ∧ W.cell? ⟨w.heap.size + 2, 22, none⟩ = some (.bool y.call) ∧ W.cell? ⟨w.heap.size + 2, 23, none⟩ = some (.string ⟨y.name.toArray⟩) ∧ UB w W s l vs r m us x y ∧ Below w10.heap.size w10 W) (by kernel_rfl) (by kernel_rfl) ⟨X00.1.ev.cell 0, X00.1.ev.cell 1, X00.1.ev.cell 2, X00.1.ev.cell 3, X00.1.ev.cell 4, X00.1.ev.cell 5, X00.1.ev.cell 6, X00.1.ev.cell 7, X00.1.ev.cell 8, X00.1.ev.cell 9, X00.1.ev.cell 10, X00.1.ev.cell 11, X00.1.ev.cell 12, X00.1.ev.cell 13, X00.1.ev.cell 14, X00.1.ev.cell 15, X00.1.ev.cell 16, X00.1.ev.cell 17, X00.1.ev.cell 18, X00.1.ev.cell 19, X00.1.ev.cell 20, X00.1.ev.cell 21, X00.1.ev.cell 22, X00.1.ev.cell 23, X00⟩ ?_
          clear X00 Z10
          repeat first
            | (refine' kept_go _ _ (fun W hW => _) _; rotate_left; (focus (go_simp; done)); (refine ⟨?_⟩; obtain ⟨k1, k2, k3, k4, k5, k6, k7, k8, k9, k10, k11, k12, k13, k14, k15, k16, k17, k18, k19, k20, k21, k22, k23, k24, X9⟩ := hW; go_simp; first | done | (with_reducible rfl) | (go_at_call 13; refine (S2.out _ X9).mono ?_; rintro e w2 ⟨rfl, hn8⟩; have Y := (⟨X9.1.keep (bel_of hn8), X9.2.trans ((bel_of hn8).mono X9.2.size)⟩ : UB w w2 s l vs r m us x y ∧ Below w10.heap.size w10 w2); refine And.intro ?_ ⟨Y.1.ev.cell 0, Y.1.ev.cell 1, Y.1.ev.cell 2, Y.1.ev.cell 3, Y.1.ev.cell 4, Y.1.ev.cell 5, Y.1.ev.cell 6, Y.1.ev.cell 7, Y.1.ev.cell 8, Y.1.ev.cell 9, Y.1.ev.cell 10, Y.1.ev.cell 11, Y.1.ev.cell 12, Y.1.ev.cell 13, Y.1.ev.cell 14, Y.1.ev.cell 15, Y.1.ev.cell 16, Y.1.ev.cell 17, Y.1.ev.cell 18, Y.1.ev.cell 19, Y.1.ev.cell 20, Y.1.ev.cell 21, Y.1.ev.cell 22, Y.1.ev.cell 23, Y⟩; with_reducible rfl)); simp only [Act.put, List.setIfInBounds_toArray, List.set_cons_zero, List.set_cons_succ])
            | (refine kept_skip ?_ ?_; (focus (first | (go_simp; done) | kernel_rfl)); simp only [Act.put, List.setIfInBounds_toArray, List.set_cons_zero, List.set_cons_succ])
          refine kept_end ?_
          rintro w11 ⟨k1, k2, k3, k4, k5, k6, k7, k8, k9, k10, k11, k12, k13, k14, k15, k16, k17, k18, k19, k20, k21, k22, k23, k24, X9⟩
          cases b
          all_goals
            go_wp2_with fail
            go_ret
            exact ⟨rfl, X9.1.led.one.low⟩
        · rw [ey] at HY z4
          clear ey EX
          generalize encE x = p1 at *
          clear HE
          go_upto_region 10 with (go_at_call 11; refine (HX.out _).mono ?_; rintro e w9 ⟨o9, rfl, own9, b9⟩)
          have X9 := Lib.hid (X8.out.keep b9)
          obtain ⟨a9, c9, rfl, _, _, at9, _, _⟩ := at_of_owns own9
          have A9 := Lib.hid at9
          clear i0 i1 i2 i3 i4 i5 i6 i7 i8 i9 i10 i11 X8 b9 own9 HX at9
          have i12 : w9.cell? ⟨w.heap.size + 2, 12, none⟩ = some (.int .i64 y.kind) := X9.out.ev.cell 12
          have i13 : w9.cell? ⟨w.heap.size + 2, 13, none⟩ = some (.int .i64 y.acct) := X9.out.ev.cell 13
          have i14 : w9.cell? ⟨w.heap.size + 2, 14, none⟩ = some (.int .i64 y.id) := X9.out.ev.cell 14
          have i15 : w9.cell? ⟨w.heap.size + 2, 15, none⟩ = some (.int .i64 y.new) := X9.out.ev.cell 15
          have i16 : w9.cell? ⟨w.heap.size + 2, 16, none⟩ = some (.int .i64 y.instr) := X9.out.ev.cell 16
          have i17 : w9.cell? ⟨w.heap.size + 2, 17, none⟩ = some (.int .i64 y.under) := X9.out.ev.cell 17
          have i18 : w9.cell? ⟨w.heap.size + 2, 18, none⟩ = some (.int .i64 y.cur) := X9.out.ev.cell 18
          have i19 : w9.cell? ⟨w.heap.size + 2, 19, none⟩ = some (.int .i64 y.qty) := X9.out.ev.cell 19
          have i20 : w9.cell? ⟨w.heap.size + 2, 20, none⟩ = some (.int .i64 y.price) := X9.out.ev.cell 20
          have i21 : w9.cell? ⟨w.heap.size + 2, 21, none⟩ = some (.int .i64 y.amount) := X9.out.ev.cell 21
          have i22 : w9.cell? ⟨w.heap.size + 2, 22, none⟩ = some (.bool y.call) := X9.out.ev.cell 22
          have i23 : w9.cell? ⟨w.heap.size + 2, 23, none⟩ = some (.string ⟨y.name.toArray⟩) := X9.out.ev.cell 23
          go_upto_region 11 with (go_at_call 11; refine (HY.out _).mono ?_; rintro e w10 ⟨o10, rfl, own10, b10⟩)
          have X10 := Lib.hid (X9.out.keep b10)
          have B9 := Lib.hid (A9.out.keep b10)
          obtain ⟨a10, c10, rfl, _, _, at10, _, _⟩ := at_of_owns own10
          have A10 := Lib.hid at10
          clear i12 i13 i14 i15 i16 i17 i18 i19 i20 i21 i22 i23 X9 b10 own10 HY at10 A9
          have X00 := X10.out.drew
          refine kept_region (fun W => W.cell? ⟨w.heap.size + 2, 0, none⟩ = some (.int .i64 x.kind) ∧ W.cell? ⟨w.heap.size + 2, 1, none⟩ = some (.int .i64 x.acct) ∧ W.cell? ⟨w.heap.size + 2, 2, none⟩ = some (.int .i64 x.id) ∧ W.cell? ⟨w.heap.size + 2, 3, none⟩ = some (.int .i64 x.new) ∧ W.cell? ⟨w.heap.size + 2, 4, none⟩ = some (.int .i64 x.instr) ∧ W.cell? ⟨w.heap.size + 2, 5, none⟩ = some (.int .i64 x.under) ∧ W.cell? ⟨w.heap.size + 2, 6, none⟩ = some (.int .i64 x.cur) ∧ W.cell? ⟨w.heap.size + 2, 7, none⟩ = some (.int .i64 x.qty) ∧ W.cell? ⟨w.heap.size + 2, 8, none⟩ = some (.int .i64 x.price) ∧ W.cell? ⟨w.heap.size + 2, 9, none⟩ = some (.int .i64 x.amount) ∧ W.cell? ⟨w.heap.size + 2, 10, none⟩ = some (.bool x.call) ∧ W.cell? ⟨w.heap.size + 2, 11, none⟩ = some (.string ⟨x.name.toArray⟩) ∧ W.cell? ⟨w.heap.size + 2, 12, none⟩ = some (.int .i64 y.kind) ∧ W.cell? ⟨w.heap.size + 2, 13, none⟩ = some (.int .i64 y.acct) ∧ W.cell? ⟨w.heap.size + 2, 14, none⟩ = some (.int .i64 y.id) ∧ W.cell? ⟨w.heap.size + 2, 15, none⟩ = some (.int .i64 y.new) ∧ W.cell? ⟨w.heap.size + 2, 16, none⟩ = some (.int .i64 y.instr) ∧ W.cell? ⟨w.heap.size + 2, 17, none⟩ = some (.int .i64 y.under) ∧ W.cell? ⟨w.heap.size + 2, 18, none⟩ = some (.int .i64 y.cur) ∧ W.cell? ⟨w.heap.size + 2, 19, none⟩ = some (.int .i64 y.qty) ∧ W.cell? ⟨w.heap.size + 2, 20, none⟩ = some (.int .i64 y.price) ∧ W.cell? ⟨w.heap.size + 2, 21, none⟩ = some (.int .i64 y.amount) ∧ W.cell? ⟨w.heap.size + 2, 22, none⟩ = some (.bool y.call) ∧ W.cell? ⟨w.heap.size + 2, 23, none⟩ = some (.string ⟨y.name.toArray⟩) ∧ UB w W s l vs r m us x y) (by kernel_rfl) (by kernel_rfl) ⟨X00.ev.cell 0, X00.ev.cell 1, X00.ev.cell 2, X00.ev.cell 3, X00.ev.cell 4, X00.ev.cell 5, X00.ev.cell 6, X00.ev.cell 7, X00.ev.cell 8, X00.ev.cell 9, X00.ev.cell 10, X00.ev.cell 11, X00.ev.cell 12, X00.ev.cell 13, X00.ev.cell 14, X00.ev.cell 15, X00.ev.cell 16, X00.ev.cell 17, X00.ev.cell 18, X00.ev.cell 19, X00.ev.cell 20, X00.ev.cell 21, X00.ev.cell 22, X00.ev.cell 23, X00⟩ ?_
          clear X00
          repeat first
            | (refine' kept_go _ _ (fun W hW => _) _; rotate_left; (focus (go_simp; done)); (refine ⟨?_⟩; obtain ⟨k1, k2, k3, k4, k5, k6, k7, k8, k9, k10, k11, k12, k13, k14, k15, k16, k17, k18, k19, k20, k21, k22, k23, k24, X9⟩ := hW; go_simp; first | done | (with_reducible rfl)); simp only [Act.put, List.setIfInBounds_toArray, List.set_cons_zero, List.set_cons_succ])
            | (refine kept_skip ?_ ?_; (focus (first | (go_simp; done) | kernel_rfl)); simp only [Act.put, List.setIfInBounds_toArray, List.set_cons_zero, List.set_cons_succ])
          refine kept_end ?_
          rintro w11 ⟨k1, k2, k3, k4, k5, k6, k7, k8, k9, k10, k11, k12, k13, k14, k15, k16, k17, k18, k19, k20, k21, k22, k23, k24, X9⟩
          go_wp2_with fail
          go_ret
          exact ⟨rfl, X9.led.one.low⟩
      · rw [ex] at HX z3
        clear ex
        generalize eventF y = p at HY z4
        obtain ⟨p1, p2⟩ := p
        clear HE
        go_upto_region 10 with (go_at_call 11; refine (HX.out _).mono ?_; rintro e w9 ⟨o9, rfl, own9, b9⟩)
        have X9 := Lib.hid (X8.out.keep b9)
        obtain ⟨a9, c9, rfl, _, _, at9, _, _⟩ := at_of_owns own9
        have A9 := Lib.hid at9
        clear i0 i1 i2 i3 i4 i5 i6 i7 i8 i9 i10 i11 X8 b9 own9 HX at9
        have i12 : w9.cell? ⟨w.heap.size + 2, 12, none⟩ = some (.int .i64 y.kind) := X9.out.ev.cell 12
        have i13 : w9.cell? ⟨w.heap.size + 2, 13, none⟩ = some (.int .i64 y.acct) := X9.out.ev.cell 13
        have i14 : w9.cell? ⟨w.heap.size + 2, 14, none⟩ = some (.int .i64 y.id) := X9.out.ev.cell 14
        have i15 : w9.cell? ⟨w.heap.size + 2, 15, none⟩ = some (.int .i64 y.new) := X9.out.ev.cell 15
        have i16 : w9.cell? ⟨w.heap.size + 2, 16, none⟩ = some (.int .i64 y.instr) := X9.out.ev.cell 16
        have i17 : w9.cell? ⟨w.heap.size + 2, 17, none⟩ = some (.int .i64 y.under) := X9.out.ev.cell 17
        have i18 : w9.cell? ⟨w.heap.size + 2, 18, none⟩ = some (.int .i64 y.cur) := X9.out.ev.cell 18
        have i19 : w9.cell? ⟨w.heap.size + 2, 19, none⟩ = some (.int .i64 y.qty) := X9.out.ev.cell 19
        have i20 : w9.cell? ⟨w.heap.size + 2, 20, none⟩ = some (.int .i64 y.price) := X9.out.ev.cell 20
        have i21 : w9.cell? ⟨w.heap.size + 2, 21, none⟩ = some (.int .i64 y.amount) := X9.out.ev.cell 21
        have i22 : w9.cell? ⟨w.heap.size + 2, 22, none⟩ = some (.bool y.call) := X9.out.ev.cell 22
        have i23 : w9.cell? ⟨w.heap.size + 2, 23, none⟩ = some (.string ⟨y.name.toArray⟩) := X9.out.ev.cell 23
        go_upto_region 11 with (go_at_call 11; refine (HY.out _).mono ?_; rintro e w10 ⟨o10, rfl, own10, b10⟩)
        have X10 := Lib.hid (X9.out.keep b10)
        have B9 := Lib.hid (A9.out.keep b10)
        obtain ⟨a10, c10, rfl, _, _, at10, _, _⟩ := at_of_owns own10
        have A10 := Lib.hid at10
        clear i12 i13 i14 i15 i16 i17 i18 i19 i20 i21 i22 i23 X9 b10 own10 HY at10 A9
        have X00 := X10.out.drew
        refine kept_region (fun W => W.cell? ⟨w.heap.size + 2, 0, none⟩ = some (.int .i64 x.kind) ∧ W.cell? ⟨w.heap.size + 2, 1, none⟩ = some (.int .i64 x.acct) ∧ W.cell? ⟨w.heap.size + 2, 2, none⟩ = some (.int .i64 x.id) ∧ W.cell? ⟨w.heap.size + 2, 3, none⟩ = some (.int .i64 x.new) ∧ W.cell? ⟨w.heap.size + 2, 4, none⟩ = some (.int .i64 x.instr) ∧ W.cell? ⟨w.heap.size + 2, 5, none⟩ = some (.int .i64 x.under) ∧ W.cell? ⟨w.heap.size + 2, 6, none⟩ = some (.int .i64 x.cur) ∧ W.cell? ⟨w.heap.size + 2, 7, none⟩ = some (.int .i64 x.qty) ∧ W.cell? ⟨w.heap.size + 2, 8, none⟩ = some (.int .i64 x.price) ∧ W.cell? ⟨w.heap.size + 2, 9, none⟩ = some (.int .i64 x.amount) ∧ W.cell? ⟨w.heap.size + 2, 10, none⟩ = some (.bool x.call) ∧ W.cell? ⟨w.heap.size + 2, 11, none⟩ = some (.string ⟨x.name.toArray⟩) ∧ W.cell? ⟨w.heap.size + 2, 12, none⟩ = some (.int .i64 y.kind) ∧ W.cell? ⟨w.heap.size + 2, 13, none⟩ = some (.int .i64 y.acct) ∧ W.cell? ⟨w.heap.size + 2, 14, none⟩ = some (.int .i64 y.id) ∧ W.cell? ⟨w.heap.size + 2, 15, none⟩ = some (.int .i64 y.new) ∧ W.cell? ⟨w.heap.size + 2, 16, none⟩ = some (.int .i64 y.instr) ∧ W.cell? ⟨w.heap.size + 2, 17, none⟩ = some (.int .i64 y.under) ∧ W.cell? ⟨w.heap.size + 2, 18, none⟩ = some (.int .i64 y.cur) ∧ W.cell? ⟨w.heap.size + 2, 19, none⟩ = some (.int .i64 y.qty) ∧ W.cell? ⟨w.heap.size + 2, 20, none⟩ = some (.int .i64 y.price) ∧ W.cell? ⟨w.heap.size + 2, 21, none⟩ = some (.int .i64 y.amount) ∧ W.cell? ⟨w.heap.size + 2, 22, none⟩ = some (.bool y.call) ∧ W.cell? ⟨w.heap.size + 2, 23, none⟩ = some (.string ⟨y.name.toArray⟩) ∧ UB w W s l vs r m us x y) (by kernel_rfl) (by kernel_rfl) ⟨X00.ev.cell 0, X00.ev.cell 1, X00.ev.cell 2, X00.ev.cell 3, X00.ev.cell 4, X00.ev.cell 5, X00.ev.cell 6, X00.ev.cell 7, X00.ev.cell 8, X00.ev.cell 9, X00.ev.cell 10, X00.ev.cell 11, X00.ev.cell 12, X00.ev.cell 13, X00.ev.cell 14, X00.ev.cell 15, X00.ev.cell 16, X00.ev.cell 17, X00.ev.cell 18, X00.ev.cell 19, X00.ev.cell 20, X00.ev.cell 21, X00.ev.cell 22, X00.ev.cell 23, X00⟩ ?_
        clear X00
        repeat first
          | (refine' kept_go _ _ (fun W hW => _) _; rotate_left; (focus (go_simp; done)); (refine ⟨?_⟩; obtain ⟨k1, k2, k3, k4, k5, k6, k7, k8, k9, k10, k11, k12, k13, k14, k15, k16, k17, k18, k19, k20, k21, k22, k23, k24, X9⟩ := hW; go_simp; first | done | (with_reducible rfl)); simp only [Act.put, List.setIfInBounds_toArray, List.set_cons_zero, List.set_cons_succ])
          | (refine kept_skip ?_ ?_; (focus (first | (go_simp; done) | kernel_rfl)); simp only [Act.put, List.setIfInBounds_toArray, List.set_cons_zero, List.set_cons_succ])
        refine kept_end ?_
        rintro w11 ⟨k1, k2, k3, k4, k5, k6, k7, k8, k9, k10, k11, k12, k13, k14, k15, k16, k17, k18, k19, k20, k21, k22, k23, k24, X9⟩
        go_wp2_with fail
        go_ret
        exact ⟨rfl, X9.led.one.low⟩
  · rw [el] at HA z1
    clear el
    generalize imageF m = p at HB z2
    obtain ⟨q2, d2⟩ := p
    clear HJ
    go_upto_region 6 with (go_at_call 9; refine (HA.out _ X4.out.led.one.at_).mono ?_; rintro e w5 ⟨o5, rfl, own5, b5⟩)
    have X5 := Lib.hid (X4.out.keep b5)
    obtain ⟨a5, c5, rfl, _, _, at5, _, _⟩ := at_of_owns own5
    have A5 := Lib.hid at5
    clear k0 k1 k2 k3 k4 k5 k6 k7 k8 X4 b5 own5 HA at5
    have j0 : w5.cell? ⟨w.heap.size + 1, 0, none⟩ = some (.int .i64 m.day) := X5.out.led.two.box.cell 0
    have j1 : w5.cell? ⟨w.heap.size + 1, 1, none⟩ = some (.slice r.a1 m.curs.length r.c1) := X5.out.led.two.box.cell 1
    have j2 : w5.cell? ⟨w.heap.size + 1, 2, none⟩ = some (.slice r.a2 m.unders.length r.c2) := X5.out.led.two.box.cell 2
    have j3 : w5.cell? ⟨w.heap.size + 1, 3, none⟩ = some (.slice r.a3 m.instrs.length r.c3) := X5.out.led.two.box.cell 3
    have j4 : w5.cell? ⟨w.heap.size + 1, 4, none⟩ = some (.slice r.a4 m.accts.length r.c4) := X5.out.led.two.box.cell 4
    have j5 : w5.cell? ⟨w.heap.size + 1, 5, none⟩ = some (.slice r.a5 m.poss.length r.c5) := X5.out.led.two.box.cell 5
    have j6 : w5.cell? ⟨w.heap.size + 1, 6, none⟩ = some (.slice r.a6 m.orders.length r.c6) := X5.out.led.two.box.cell 6
    have j7 : w5.cell? ⟨w.heap.size + 1, 7, none⟩ = some (.slice r.a7 m.avail.length r.c7) := X5.out.led.two.box.cell 7
    have j8 : w5.cell? ⟨w.heap.size + 1, 8, none⟩ = some (.slice r.a8 m.locs.length r.c8) := X5.out.led.two.box.cell 8
    go_upto_region 7 with (go_at_call 9; refine (HB.out _ X5.out.led.two.at_).mono ?_; rintro e w6 ⟨o6, rfl, own6, b6⟩)
    have X6 := Lib.hid (X5.out.keep b6)
    have B5 := Lib.hid (A5.out.keep b6)
    obtain ⟨a6, c6, rfl, _, _, at6, _, _⟩ := at_of_owns own6
    have A6 := Lib.hid at6
    clear j0 j1 j2 j3 j4 j5 j6 j7 j8 X5 b6 own6 HB at6 A5
    have X00 := X6.out.drew
    refine kept_region (fun W => W.cell? ⟨w.heap.size, 0, none⟩ = some (.int .i64 l.day) ∧ W.cell? ⟨w.heap.size, 1, none⟩ = some (.slice s.a1 l.curs.length s.c1) ∧ W.cell? ⟨w.heap.size, 2, none⟩ = some (.slice s.a2 l.unders.length s.c2) ∧ W.cell? ⟨w.heap.size, 3, none⟩ = some (.slice s.a3 l.instrs.length s.c3) ∧ W.cell? ⟨w.heap.size, 4, none⟩ = some (.slice s.a4 l.accts.length s.c4) ∧ W.cell? ⟨w.heap.size, 5, none⟩ = some (.slice s.a5 l.poss.length s.c5) ∧ W.cell? ⟨w.heap.size, 6, none⟩ = some (.slice s.a6 l.orders.length s.c6) ∧ W.cell? ⟨w.heap.size, 7, none⟩ = some (.slice s.a7 l.avail.length s.c7) ∧ W.cell? ⟨w.heap.size, 8, none⟩ = some (.slice s.a8 l.locs.length s.c8) ∧ W.cell? ⟨w.heap.size + 1, 0, none⟩ = some (.int .i64 m.day) ∧ W.cell? ⟨w.heap.size + 1, 1, none⟩ = some (.slice r.a1 m.curs.length r.c1) ∧ W.cell? ⟨w.heap.size + 1, 2, none⟩ = some (.slice r.a2 m.unders.length r.c2) ∧ W.cell? ⟨w.heap.size + 1, 3, none⟩ = some (.slice r.a3 m.instrs.length r.c3) ∧ W.cell? ⟨w.heap.size + 1, 4, none⟩ = some (.slice r.a4 m.accts.length r.c4) ∧ W.cell? ⟨w.heap.size + 1, 5, none⟩ = some (.slice r.a5 m.poss.length r.c5) ∧ W.cell? ⟨w.heap.size + 1, 6, none⟩ = some (.slice r.a6 m.orders.length r.c6) ∧ W.cell? ⟨w.heap.size + 1, 7, none⟩ = some (.slice r.a7 m.avail.length r.c7) ∧ W.cell? ⟨w.heap.size + 1, 8, none⟩ = some (.slice r.a8 m.locs.length r.c8) ∧ UB w W s l vs r m us x y) (by kernel_rfl) (by kernel_rfl) ⟨X00.led.one.box.cell 0, X00.led.one.box.cell 1, X00.led.one.box.cell 2, X00.led.one.box.cell 3, X00.led.one.box.cell 4, X00.led.one.box.cell 5, X00.led.one.box.cell 6, X00.led.one.box.cell 7, X00.led.one.box.cell 8, X00.led.two.box.cell 0, X00.led.two.box.cell 1, X00.led.two.box.cell 2, X00.led.two.box.cell 3, X00.led.two.box.cell 4, X00.led.two.box.cell 5, X00.led.two.box.cell 6, X00.led.two.box.cell 7, X00.led.two.box.cell 8, X00⟩ ?_
    clear X00
    repeat first
      | (refine' kept_go _ _ (fun W hW => _) _; rotate_left; (focus (go_simp; done)); (refine ⟨?_⟩; obtain ⟨k1, k2, k3, k4, k5, k6, k7, k8, k9, k10, k11, k12, k13, k14, k15, k16, k17, k18, X9⟩ := hW; go_simp; first | done | (with_reducible rfl)); simp only [Act.put, List.setIfInBounds_toArray, List.set_cons_zero, List.set_cons_succ])
      | (refine kept_skip ?_ ?_; (focus (first | (go_simp; done) | kernel_rfl)); simp only [Act.put, List.setIfInBounds_toArray, List.set_cons_zero, List.set_cons_succ])
    refine kept_end ?_
    rintro w7 ⟨k1, k2, k3, k4, k5, k6, k7, k8, k9, k10, k11, k12, k13, k14, k15, k16, k17, k18, X9⟩
    have X7 := Lib.hid X9
    clear k1 k2 k3 k4 k5 k6 k7 k8 k9 k10 k11 k12 k13 k14 k15 k16 k17 k18 X9 B5 A6 X6 z1 z2 HL
    go_upto_region 9 with fail
    have X8 := Lib.hid X7.out
    clear X7
    have i0 : w7.cell? ⟨w.heap.size + 2, 0, none⟩ = some (.int .i64 x.kind) := X8.out.ev.cell 0
    have i1 : w7.cell? ⟨w.heap.size + 2, 1, none⟩ = some (.int .i64 x.acct) := X8.out.ev.cell 1
    have i2 : w7.cell? ⟨w.heap.size + 2, 2, none⟩ = some (.int .i64 x.id) := X8.out.ev.cell 2
    have i3 : w7.cell? ⟨w.heap.size + 2, 3, none⟩ = some (.int .i64 x.new) := X8.out.ev.cell 3
    have i4 : w7.cell? ⟨w.heap.size + 2, 4, none⟩ = some (.int .i64 x.instr) := X8.out.ev.cell 4
    have i5 : w7.cell? ⟨w.heap.size + 2, 5, none⟩ = some (.int .i64 x.under) := X8.out.ev.cell 5
    have i6 : w7.cell? ⟨w.heap.size + 2, 6, none⟩ = some (.int .i64 x.cur) := X8.out.ev.cell 6
    have i7 : w7.cell? ⟨w.heap.size + 2, 7, none⟩ = some (.int .i64 x.qty) := X8.out.ev.cell 7
    have i8 : w7.cell? ⟨w.heap.size + 2, 8, none⟩ = some (.int .i64 x.price) := X8.out.ev.cell 8
    have i9 : w7.cell? ⟨w.heap.size + 2, 9, none⟩ = some (.int .i64 x.amount) := X8.out.ev.cell 9
    have i10 : w7.cell? ⟨w.heap.size + 2, 10, none⟩ = some (.bool x.call) := X8.out.ev.cell 10
    have i11 : w7.cell? ⟨w.heap.size + 2, 11, none⟩ = some (.string ⟨x.name.toArray⟩) := X8.out.ev.cell 11
    rcases event_cases x with ex | ⟨c1, ex, hc1⟩
    · rw [ex] at HX z3
      have EX := Lib.hid ex
      clear ex
      rcases event_cases y with ey | ⟨c2, ey, hc2⟩
      · rw [ey] at HY z4
        clear ey EX
        have hd : decide (encE x = encE y) = decide (x = y) := decide_eq_decide.2 ⟨HE.out, fun h => by rw [h]⟩
        generalize encE x = p1 at *
        generalize encE y = p2 at *
        clear HE
        go_upto_region 10 with (go_at_call 11; refine (HX.out _).mono ?_; rintro e w9 ⟨o9, rfl, own9, b9⟩)
        have X9 := Lib.hid (X8.out.keep b9)
        obtain ⟨a9, c9, rfl, _, _, at9, _, _⟩ := at_of_owns own9
        have A9 := Lib.hid at9
        clear i0 i1 i2 i3 i4 i5 i6 i7 i8 i9 i10 i11 X8 b9 own9 HX at9
        have i12 : w9.cell? ⟨w.heap.size + 2, 12, none⟩ = some (.int .i64 y.kind) := X9.out.ev.cell 12
        have i13 : w9.cell? ⟨w.heap.size + 2, 13, none⟩ = some (.int .i64 y.acct) := X9.out.ev.cell 13
        have i14 : w9.cell? ⟨w.heap.size + 2, 14, none⟩ = some (.int .i64 y.id) := X9.out.ev.cell 14
        have i15 : w9.cell? ⟨w.heap.size + 2, 15, none⟩ = some (.int .i64 y.new) := X9.out.ev.cell 15
        have i16 : w9.cell? ⟨w.heap.size + 2, 16, none⟩ = some (.int .i64 y.instr) := X9.out.ev.cell 16
        have i17 : w9.cell? ⟨w.heap.size + 2, 17, none⟩ = some (.int .i64 y.under) := X9.out.ev.cell 17
        have i18 : w9.cell? ⟨w.heap.size + 2, 18, none⟩ = some (.int .i64 y.cur) := X9.out.ev.cell 18
        have i19 : w9.cell? ⟨w.heap.size + 2, 19, none⟩ = some (.int .i64 y.qty) := X9.out.ev.cell 19
        have i20 : w9.cell? ⟨w.heap.size + 2, 20, none⟩ = some (.int .i64 y.price) := X9.out.ev.cell 20
        have i21 : w9.cell? ⟨w.heap.size + 2, 21, none⟩ = some (.int .i64 y.amount) := X9.out.ev.cell 21
        have i22 : w9.cell? ⟨w.heap.size + 2, 22, none⟩ = some (.bool y.call) := X9.out.ev.cell 22
        have i23 : w9.cell? ⟨w.heap.size + 2, 23, none⟩ = some (.string ⟨y.name.toArray⟩) := X9.out.ev.cell 23
        go_upto_region 11 with (go_at_call 11; refine (HY.out _).mono ?_; rintro e w10 ⟨o10, rfl, own10, b10⟩)
        have X10 := Lib.hid (X9.out.keep b10)
        have B9 := Lib.hid (A9.out.keep b10)
        obtain ⟨a10, c10, rfl, _, _, at10, _, _⟩ := at_of_owns own10
        have A10 := Lib.hid at10
        clear i12 i13 i14 i15 i16 i17 i18 i19 i20 i21 i22 i23 X9 b10 own10 HY at10 A9
        have S2 := Lib.hid (fun W (b : UB w W s l vs r m us x y ∧ Below w10.heap.size w10 W) => isame_calls a9 a10 c9 c10 p1 p2 W z3.out z4.out (B9.out.keep b.2) (A10.out.keep b.2))
        simp only [hd] at S2
        clear hd
        have HQ2 := HQ.out
        clear HQ
        generalize decide (x = y) = b at S2 HQ2
        have Z10 : UB w w10.drew s l vs r m us x y ∧ Below w10.heap.size w10 w10.drew := ⟨X10.out.drew, bel_of ⟨1, rfl⟩⟩
        have X00 := Z10
        refine kept_region (fun W => W.cell? ⟨w.heap.size + 2, 0, none⟩ = some (.int .i64 x.kind) ∧ W.cell? ⟨w.heap.size + 2, 1, none⟩ = some (.int .i64 x.acct) ∧ W.cell? ⟨w.heap.size + 2, 2, none⟩ = some (.int .i64 x.id) ∧ W.cell? ⟨w.heap.size + 2, 3, none⟩ = some (.int .i64 x.new) ∧ W.cell? ⟨w.heap.size + 2, 4, none⟩ = some (.int .i64 x.instr) ∧ W.cell? ⟨w.heap.size + 2, 5, none⟩ = some (.int .i64 x.under) ∧ W.cell? ⟨w.heap.size + 2, 6, none⟩ = some (.int .i64 x.cur) ∧ W.cell? ⟨w.heap.size + 2, 7, none⟩ = some (.int .i64 x.qty) ∧ W.cell? ⟨w.heap.size + 2, 8, none⟩ = some (.int .i64 x.price) ∧ W.cell? ⟨w.heap.size + 2, 9, none⟩ = some (.int .i64 x.amount) ∧ W.cell? ⟨w.heap.size + 2, 10, none⟩ = some (.bool x.call) ∧ W.cell? ⟨w.heap.size + 2, 11, none⟩ = some (.string ⟨x.name.toArray⟩) ∧ W.cell? ⟨w.heap.size + 2, 12, none⟩ = some (.int .i64 y.kind) ∧ W.cell? ⟨w.heap.size + 2, 13, none⟩ = some (.int .i64 y.acct) ∧ W.cell? ⟨w.heap.size + 2, 14, none⟩ = some (.int .i64 y.id) ∧ W.cell? ⟨w.heap.size + 2, 15, none⟩ = some (.int .i64 y.new) ∧ W.cell? ⟨w.heap.size + 2, 16, none⟩ = some (.int .i64 y.instr) ∧ W.cell? ⟨w.heap.size + 2, 17, none⟩ = some (.int .i64 y.under) ∧ W.cell? ⟨w.heap.size + 2, 18, none⟩ = some (.int .i64 y.cur) ∧ W.cell? ⟨w.heap.size + 2, 19, none⟩ = some (.int .i64 y.qty) ∧ W.cell? ⟨w.heap.size + 2, 20, none⟩ = some (.int .i64 y.price) ∧ W.cell? ⟨w.heap.size + 2, 21, none⟩ = some (.int .i64 y.amount) ∧ W.cell? ⟨w.heap.size + 2, 22, none⟩ = some (.bool y.call) ∧ W.cell? ⟨w.heap.size + 2, 23, none⟩ = some (.string ⟨y.name.toArray⟩) ∧ UB w W s l vs r m us x y ∧ Below w10.heap.size w10 W) (by kernel_rfl) (by kernel_rfl) ⟨X00.1.ev.cell 0, X00.1.ev.cell 1, X00.1.ev.cell 2, X00.1.ev.cell 3, X00.1.ev.cell 4, X00.1.ev.cell 5, X00.1.ev.cell 6, X00.1.ev.cell 7, X00.1.ev.cell 8, X00.1.ev.cell 9, X00.1.ev.cell 10, X00.1.ev.cell 11, X00.1.ev.cell 12, X00.1.ev.cell 13, X00.1.ev.cell 14, X00.1.ev.cell 15, X00.1.ev.cell 16, X00.1.ev.cell 17, X00.1.ev.cell 18, X00.1.ev.cell 19, X00.1.ev.cell 20, X00.1.ev.cell 21, X00.1.ev.cell 22, X00.1.ev.cell 23, X00⟩ ?_
        clear X00 Z10
        repeat first
          | (refine' kept_go _ _ (fun W hW => _) _; rotate_left; (focus (go_simp; done)); (refine ⟨?_⟩; obtain ⟨k1, k2, k3, k4, k5, k6, k7, k8, k9, k10, k11, k12, k13, k14, k15, k16, k17, k18, k19, k20, k21, k22, k23, k24, X9⟩ := hW; go_simp; first | done | (with_reducible rfl) | (go_at_call 13; refine (S2.out _ X9).mono ?_; rintro e w2 ⟨rfl, hn8⟩; have Y := (⟨X9.1.keep (bel_of hn8), X9.2.trans ((bel_of hn8).mono X9.2.size)⟩ : UB w w2 s l vs r m us x y ∧ Below w10.heap.size w10 w2); refine And.intro ?_ ⟨Y.1.ev.cell 0, Y.1.ev.cell 1, Y.1.ev.cell 2, Y.1.ev.cell 3, Y.1.ev.cell 4, Y.1.ev.cell 5, Y.1.ev.cell 6, Y.1.ev.cell 7, Y.1.ev.cell 8, Y.1.ev.cell 9, Y.1.ev.cell 10, Y.1.ev.cell 11, Y.1.ev.cell 12, Y.1.ev.cell 13, Y.1.ev.cell 14, Y.1.ev.cell 15, Y.1.ev.cell 16, Y.1.ev.cell 17, Y.1.ev.cell 18, Y.1.ev.cell 19, Y.1.ev.cell 20, Y.1.ev.cell 21, Y.1.ev.cell 22, Y.1.ev.cell 23, Y⟩; with_reducible rfl)); simp only [Act.put, List.setIfInBounds_toArray, List.set_cons_zero, List.set_cons_succ])
          | (refine kept_skip ?_ ?_; (focus (first | (go_simp; done) | kernel_rfl)); simp only [Act.put, List.setIfInBounds_toArray, List.set_cons_zero, List.set_cons_succ])
        refine kept_end ?_
        rintro w11 ⟨k1, k2, k3, k4, k5, k6, k7, k8, k9, k10, k11, k12, k13, k14, k15, k16, k17, k18, k19, k20, k21, k22, k23, k24, X9⟩
        cases b
        all_goals
          go_wp2_with fail
          go_ret
          exact ⟨rfl, X9.1.led.one.low⟩
      · rw [ey] at HY z4
        clear ey EX
        generalize encE x = p1 at *
        clear HE
        go_upto_region 10 with (go_at_call 11; refine (HX.out _).mono ?_; rintro e w9 ⟨o9, rfl, own9, b9⟩)
        have X9 := Lib.hid (X8.out.keep b9)
        obtain ⟨a9, c9, rfl, _, _, at9, _, _⟩ := at_of_owns own9
        have A9 := Lib.hid at9
        clear i0 i1 i2 i3 i4 i5 i6 i7 i8 i9 i10 i11 X8 b9 own9 HX at9
        have i12 : w9.cell? ⟨w.heap.size + 2, 12, none⟩ = some (.int .i64 y.kind) := X9.out.ev.cell 12
        have i13 : w9.cell? ⟨w.heap.size + 2, 13, none⟩ = some (.int .i64 y.acct) := X9.out.ev.cell 13
        have i14 : w9.cell? ⟨w.heap.size + 2, 14, none⟩ = some (.int .i64 y.id) := X9.out.ev.cell 14
        have i15 : w9.cell? ⟨w.heap.size + 2, 15, none⟩ = some (.int .i64 y.new) := X9.out.ev.cell 15
        have i16 : w9.cell? ⟨w.heap.size + 2, 16, none⟩ = some (.int .i64 y.instr) := X9.out.ev.cell 16
        have i17 : w9.cell? ⟨w.heap.size + 2, 17, none⟩ = some (.int .i64 y.under) := X9.out.ev.cell 17
        have i18 : w9.cell? ⟨w.heap.size + 2, 18, none⟩ = some (.int .i64 y.cur) := X9.out.ev.cell 18
        have i19 : w9.cell? ⟨w.heap.size + 2, 19, none⟩ = some (.int .i64 y.qty) := X9.out.ev.cell 19
        have i20 : w9.cell? ⟨w.heap.size + 2, 20, none⟩ = some (.int .i64 y.price) := X9.out.ev.cell 20
        have i21 : w9.cell? ⟨w.heap.size + 2, 21, none⟩ = some (.int .i64 y.amount) := X9.out.ev.cell 21
        have i22 : w9.cell? ⟨w.heap.size + 2, 22, none⟩ = some (.bool y.call) := X9.out.ev.cell 22
        have i23 : w9.cell? ⟨w.heap.size + 2, 23, none⟩ = some (.string ⟨y.name.toArray⟩) := X9.out.ev.cell 23
        go_upto_region 11 with (go_at_call 11; refine (HY.out _).mono ?_; rintro e w10 ⟨o10, rfl, own10, b10⟩)
        have X10 := Lib.hid (X9.out.keep b10)
        have B9 := Lib.hid (A9.out.keep b10)
        obtain ⟨a10, c10, rfl, _, _, at10, _, _⟩ := at_of_owns own10
        have A10 := Lib.hid at10
        clear i12 i13 i14 i15 i16 i17 i18 i19 i20 i21 i22 i23 X9 b10 own10 HY at10 A9
        have X00 := X10.out.drew
        refine kept_region (fun W => W.cell? ⟨w.heap.size + 2, 0, none⟩ = some (.int .i64 x.kind) ∧ W.cell? ⟨w.heap.size + 2, 1, none⟩ = some (.int .i64 x.acct) ∧ W.cell? ⟨w.heap.size + 2, 2, none⟩ = some (.int .i64 x.id) ∧ W.cell? ⟨w.heap.size + 2, 3, none⟩ = some (.int .i64 x.new) ∧ W.cell? ⟨w.heap.size + 2, 4, none⟩ = some (.int .i64 x.instr) ∧ W.cell? ⟨w.heap.size + 2, 5, none⟩ = some (.int .i64 x.under) ∧ W.cell? ⟨w.heap.size + 2, 6, none⟩ = some (.int .i64 x.cur) ∧ W.cell? ⟨w.heap.size + 2, 7, none⟩ = some (.int .i64 x.qty) ∧ W.cell? ⟨w.heap.size + 2, 8, none⟩ = some (.int .i64 x.price) ∧ W.cell? ⟨w.heap.size + 2, 9, none⟩ = some (.int .i64 x.amount) ∧ W.cell? ⟨w.heap.size + 2, 10, none⟩ = some (.bool x.call) ∧ W.cell? ⟨w.heap.size + 2, 11, none⟩ = some (.string ⟨x.name.toArray⟩) ∧ W.cell? ⟨w.heap.size + 2, 12, none⟩ = some (.int .i64 y.kind) ∧ W.cell? ⟨w.heap.size + 2, 13, none⟩ = some (.int .i64 y.acct) ∧ W.cell? ⟨w.heap.size + 2, 14, none⟩ = some (.int .i64 y.id) ∧ W.cell? ⟨w.heap.size + 2, 15, none⟩ = some (.int .i64 y.new) ∧ W.cell? ⟨w.heap.size + 2, 16, none⟩ = some (.int .i64 y.instr) ∧ W.cell? ⟨w.heap.size + 2, 17, none⟩ = some (.int .i64 y.under) ∧ W.cell? ⟨w.heap.size + 2, 18, none⟩ = some (.int .i64 y.cur) ∧ W.cell? ⟨w.heap.size + 2, 19, none⟩ = some (.int .i64 y.qty) ∧ W.cell? ⟨w.heap.size + 2, 20, none⟩ = some (.int .i64 y.price) ∧ W.cell? ⟨w.heap.size + 2, 21, none⟩ = some (.int .i64 y.amount) ∧ W.cell? ⟨w.heap.size + 2, 22, none⟩ = some (.bool y.call) ∧ W.cell? ⟨w.heap.size + 2, 23, none⟩ = some (.string ⟨y.name.toArray⟩) ∧ UB w W s l vs r m us x y) (by kernel_rfl) (by kernel_rfl) ⟨X00.ev.cell 0, X00.ev.cell 1, X00.ev.cell 2, X00.ev.cell 3, X00.ev.cell 4, X00.ev.cell 5, X00.ev.cell 6, X00.ev.cell 7, X00.ev.cell 8, X00.ev.cell 9, X00.ev.cell 10, X00.ev.cell 11, X00.ev.cell 12, X00.ev.cell 13, X00.ev.cell 14, X00.ev.cell 15, X00.ev.cell 16, X00.ev.cell 17, X00.ev.cell 18, X00.ev.cell 19, X00.ev.cell 20, X00.ev.cell 21, X00.ev.cell 22, X00.ev.cell 23, X00⟩ ?_
        clear X00
        repeat first
          | (refine' kept_go _ _ (fun W hW => _) _; rotate_left; (focus (go_simp; done)); (refine ⟨?_⟩; obtain ⟨k1, k2, k3, k4, k5, k6, k7, k8, k9, k10, k11, k12, k13, k14, k15, k16, k17, k18, k19, k20, k21, k22, k23, k24, X9⟩ := hW; go_simp; first | done | (with_reducible rfl)); simp only [Act.put, List.setIfInBounds_toArray, List.set_cons_zero, List.set_cons_succ])
          | (refine kept_skip ?_ ?_; (focus (first | (go_simp; done) | kernel_rfl)); simp only [Act.put, List.setIfInBounds_toArray, List.set_cons_zero, List.set_cons_succ])
        refine kept_end ?_
        rintro w11 ⟨k1, k2, k3, k4, k5, k6, k7, k8, k9, k10, k11, k12, k13, k14, k15, k16, k17, k18, k19, k20, k21, k22, k23, k24, X9⟩
        go_wp2_with fail
        go_ret
        exact ⟨rfl, X9.led.one.low⟩
    · rw [ex] at HX z3
      clear ex
      generalize eventF y = p at HY z4
      obtain ⟨p1, p2⟩ := p
      clear HE
      go_upto_region 10 with (go_at_call 11; refine (HX.out _).mono ?_; rintro e w9 ⟨o9, rfl, own9, b9⟩)
      have X9 := Lib.hid (X8.out.keep b9)
      obtain ⟨a9, c9, rfl, _, _, at9, _, _⟩ := at_of_owns own9
      have A9 := Lib.hid at9
      clear i0 i1 i2 i3 i4 i5 i6 i7 i8 i9 i10 i11 X8 b9 own9 HX at9
      have i12 : w9.cell? ⟨w.heap.size + 2, 12, none⟩ = some (.int .i64 y.kind) := X9.out.ev.cell 12
      have i13 : w9.cell? ⟨w.heap.size + 2, 13, none⟩ = some (.int .i64 y.acct) := X9.out.ev.cell 13
      have i14 : w9.cell? ⟨w.heap.size + 2, 14, none⟩ = some (.int .i64 y.id) := X9.out.ev.cell 14
      have i15 : w9.cell? ⟨w.heap.size + 2, 15, none⟩ = some (.int .i64 y.new) := X9.out.ev.cell 15
      have i16 : w9.cell? ⟨w.heap.size + 2, 16, none⟩ = some (.int .i64 y.instr) := X9.out.ev.cell 16
      have i17 : w9.cell? ⟨w.heap.size + 2, 17, none⟩ = some (.int .i64 y.under) := X9.out.ev.cell 17
      have i18 : w9.cell? ⟨w.heap.size + 2, 18, none⟩ = some (.int .i64 y.cur) := X9.out.ev.cell 18
      have i19 : w9.cell? ⟨w.heap.size + 2, 19, none⟩ = some (.int .i64 y.qty) := X9.out.ev.cell 19
      have i20 : w9.cell? ⟨w.heap.size + 2, 20, none⟩ = some (.int .i64 y.price) := X9.out.ev.cell 20
      have i21 : w9.cell? ⟨w.heap.size + 2, 21, none⟩ = some (.int .i64 y.amount) := X9.out.ev.cell 21
      have i22 : w9.cell? ⟨w.heap.size + 2, 22, none⟩ = some (.bool y.call) := X9.out.ev.cell 22
      have i23 : w9.cell? ⟨w.heap.size + 2, 23, none⟩ = some (.string ⟨y.name.toArray⟩) := X9.out.ev.cell 23
      go_upto_region 11 with (go_at_call 11; refine (HY.out _).mono ?_; rintro e w10 ⟨o10, rfl, own10, b10⟩)
      have X10 := Lib.hid (X9.out.keep b10)
      have B9 := Lib.hid (A9.out.keep b10)
      obtain ⟨a10, c10, rfl, _, _, at10, _, _⟩ := at_of_owns own10
      have A10 := Lib.hid at10
      clear i12 i13 i14 i15 i16 i17 i18 i19 i20 i21 i22 i23 X9 b10 own10 HY at10 A9
      have X00 := X10.out.drew
      refine kept_region (fun W => W.cell? ⟨w.heap.size + 2, 0, none⟩ = some (.int .i64 x.kind) ∧ W.cell? ⟨w.heap.size + 2, 1, none⟩ = some (.int .i64 x.acct) ∧ W.cell? ⟨w.heap.size + 2, 2, none⟩ = some (.int .i64 x.id) ∧ W.cell? ⟨w.heap.size + 2, 3, none⟩ = some (.int .i64 x.new) ∧ W.cell? ⟨w.heap.size + 2, 4, none⟩ = some (.int .i64 x.instr) ∧ W.cell? ⟨w.heap.size + 2, 5, none⟩ = some (.int .i64 x.under) ∧ W.cell? ⟨w.heap.size + 2, 6, none⟩ = some (.int .i64 x.cur) ∧ W.cell? ⟨w.heap.size + 2, 7, none⟩ = some (.int .i64 x.qty) ∧ W.cell? ⟨w.heap.size + 2, 8, none⟩ = some (.int .i64 x.price) ∧ W.cell? ⟨w.heap.size + 2, 9, none⟩ = some (.int .i64 x.amount) ∧ W.cell? ⟨w.heap.size + 2, 10, none⟩ = some (.bool x.call) ∧ W.cell? ⟨w.heap.size + 2, 11, none⟩ = some (.string ⟨x.name.toArray⟩) ∧ W.cell? ⟨w.heap.size + 2, 12, none⟩ = some (.int .i64 y.kind) ∧ W.cell? ⟨w.heap.size + 2, 13, none⟩ = some (.int .i64 y.acct) ∧ W.cell? ⟨w.heap.size + 2, 14, none⟩ = some (.int .i64 y.id) ∧ W.cell? ⟨w.heap.size + 2, 15, none⟩ = some (.int .i64 y.new) ∧ W.cell? ⟨w.heap.size + 2, 16, none⟩ = some (.int .i64 y.instr) ∧ W.cell? ⟨w.heap.size + 2, 17, none⟩ = some (.int .i64 y.under) ∧ W.cell? ⟨w.heap.size + 2, 18, none⟩ = some (.int .i64 y.cur) ∧ W.cell? ⟨w.heap.size + 2, 19, none⟩ = some (.int .i64 y.qty) ∧ W.cell? ⟨w.heap.size + 2, 20, none⟩ = some (.int .i64 y.price) ∧ W.cell? ⟨w.heap.size + 2, 21, none⟩ = some (.int .i64 y.amount) ∧ W.cell? ⟨w.heap.size + 2, 22, none⟩ = some (.bool y.call) ∧ W.cell? ⟨w.heap.size + 2, 23, none⟩ = some (.string ⟨y.name.toArray⟩) ∧ UB w W s l vs r m us x y) (by kernel_rfl) (by kernel_rfl) ⟨X00.ev.cell 0, X00.ev.cell 1, X00.ev.cell 2, X00.ev.cell 3, X00.ev.cell 4, X00.ev.cell 5, X00.ev.cell 6, X00.ev.cell 7, X00.ev.cell 8, X00.ev.cell 9, X00.ev.cell 10, X00.ev.cell 11, X00.ev.cell 12, X00.ev.cell 13, X00.ev.cell 14, X00.ev.cell 15, X00.ev.cell 16, X00.ev.cell 17, X00.ev.cell 18, X00.ev.cell 19, X00.ev.cell 20, X00.ev.cell 21, X00.ev.cell 22, X00.ev.cell 23, X00⟩ ?_
      clear X00
      repeat first
        | (refine' kept_go _ _ (fun W hW => _) _; rotate_left; (focus (go_simp; done)); (refine ⟨?_⟩; obtain ⟨k1, k2, k3, k4, k5, k6, k7, k8, k9, k10, k11, k12, k13, k14, k15, k16, k17, k18, k19, k20, k21, k22, k23, k24, X9⟩ := hW; go_simp; first | done | (with_reducible rfl)); simp only [Act.put, List.setIfInBounds_toArray, List.set_cons_zero, List.set_cons_succ])
        | (refine kept_skip ?_ ?_; (focus (first | (go_simp; done) | kernel_rfl)); simp only [Act.put, List.setIfInBounds_toArray, List.set_cons_zero, List.set_cons_succ])
      refine kept_end ?_
      rintro w11 ⟨k1, k2, k3, k4, k5, k6, k7, k8, k9, k10, k11, k12, k13, k14, k15, k16, k17, k18, k19, k20, k21, k22, k23, k24, X9⟩
      go_wp2_with fail
      go_ret
      exact ⟨rfl, X9.led.one.low⟩
set_option maxRecDepth 100000 in
theorem opened (H : Type) (enc : TypeId × Value → H) (W : World) (base : Nat) (args : Array Value) (ds : List (DataW H)) (p : List MemPlace)
    (hval : ∀ (j : Nat) t v, Tryd.f4.params[j]? = some t → args[j]? = some v → Value.okWide Tryd.prog W .any base t v)
    (hA : DataW.TrodAll enc Tryd.prog W 0 (fun _ => true) true Tryd.f4.params.toList args.toList ds p)
    (hr : ∀ x ∈ DataW.weightsEach Tryd.prog Tryd.f4.params.toList ds, x ≤ reachBytes)
    (hL : laidMetH Tryd.prog Rows.imageUnlikeRow.laid W) :
    Calls Tryd.prog 4 args W fun e W' => e = .returned (.bool true) ∧ Below W.heap.size W W' := by
  rw [Tryd.params4] at hA hval hr
  have _ := hL
  obtain ⟨v0, vs0, d0, ds0, p0, q0, hargs, rfl, rfl, h0, r0⟩ := trodAll_cons hA
  obtain ⟨v1, vs1, d1, ds1, p1, q1, rfl, rfl, rfl, h1, r1⟩ := trodAll_cons r0
  obtain ⟨v2, vs2, d2, ds2, p2, q2, rfl, rfl, rfl, h2, r2⟩ := trodAll_cons r1
  obtain ⟨rfl, rfl, rfl⟩ := trodAll_nil r2
  obtain rfl : args = #[v0, v1, v2] := by cases args; simp_all
  obtain ⟨s, l, vs, rfl, hat, hok, hb⟩ := open_ledger2 (hval 0 31 v0 rfl rfl) h0 (fun x hx => hr x (by simp only [DataW.weightsEach, List.mem_append]; exact .inl hx))
  obtain ⟨r, m, us, rfl, hat2, hok2, hb2⟩ := open_ledger2 (hval 1 31 v1 rfl rfl) h1 (fun x hx => hr x (by simp only [DataW.weightsEach, List.mem_append]; exact .inr (.inl hx)))
  obtain ⟨x, y, rfl, fx, fy⟩ := open_ev2 (hval 2 43 v2 rfl rfl) h2 (fun x hx => hr x (by simp only [DataW.weightsEach, List.mem_append]; exact .inr (.inr (.inl hx))))
  exact walk s l vs r m us x y W hat hok hb hat2 hok2 hb2 fx fy
end Go.Proofs.YtocjfjikkdpfdaaDoor.imageUnlike
