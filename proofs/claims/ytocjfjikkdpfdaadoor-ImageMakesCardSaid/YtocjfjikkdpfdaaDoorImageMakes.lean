/- ImageMakes: the walk, and the step from the law's arguments to it. Written by genmakes.py. -/
import Derived.Test.YtocjfjikkdpfdaaDoorImgB
set_option linter.unusedSimpArgs false
set_option linter.unusedVariables false
namespace Go.Proofs.YtocjfjikkdpfdaaDoor.imageMakes
open Go.ChangeShapes Go.WideShapes Go.ChangeAt Go.RowKit Go.Proofs.YtocjfjikkdpfdaaDoor.Bas Go.Proofs.YtocjfjikkdpfdaaDoor.LedM Go.Proofs.YtocjfjikkdpfdaaDoor.LedW Go.Proofs.YtocjfjikkdpfdaaDoor.ImgW

/-- the law's boxes -/
structure MB (w W : World) (s : Lists) (l : Led) (vs : List (Value × Acc)) (x : EvR) : Prop where
  led : LedH w W w.heap.size s l vs
  ev : Box W (w.heap.size + 1) 33 #[.int .i64 x.kind, .int .i64 x.acct, .int .i64 x.id, .int .i64 x.new, .int .i64 x.instr, .int .i64 x.under, .int .i64 x.cur, .int .i64 x.qty, .int .i64 x.price, .int .i64 x.amount, .bool x.call, .string ⟨x.name.toArray⟩]
theorem MB.keep {w A B : World} {s : Lists} {l : Led} {vs : List (Value × Acc)} {x : EvR} (h : MB w A s l vs x) (b : Below A.heap.size A B) : MB w B s l vs x := ⟨h.led.keep b, h.ev.keep b⟩
set_option maxHeartbeats 4000000 in
set_option maxRecDepth 100000 in
theorem walk (s : Lists) (l : Led) (vs : List (Value × Acc)) (x : EvR) (w : World) (hat : LedAt w s l vs) (hok : LedOk w l vs s) (hb : LedBig l) (hn : x.name.length ≤ 140737488351232) :
    Calls Tryd.prog 3 #[ledV s l, evV x] w fun e w' => e = .returned (.bool true) ∧ Below w.heap.size w w' := by
  have X : MB w ((w.alloc (.cells #[.int .i64 l.day, .slice s.a1 l.curs.length s.c1, .slice s.a2 l.unders.length s.c2, .slice s.a3 l.instrs.length s.c3, .slice s.a4 l.accts.length s.c4, .slice s.a5 l.poss.length s.c5, .slice s.a6 l.orders.length s.c6, .slice s.a7 l.avail.length s.c7, .slice s.a8 l.locs.length s.c8] 31)).alloc (.cells #[.int .i64 x.kind, .int .i64 x.acct, .int .i64 x.id, .int .i64 x.new, .int .i64 x.instr, .int .i64 x.under, .int .i64 x.cur, .int .i64 x.qty, .int .i64 x.price, .int .i64 x.amount, .bool x.call, .string ⟨x.name.toArray⟩] 33)) s l vs x := by
    have a2 := Box.new (w.alloc (.cells #[.int .i64 l.day, .slice s.a1 l.curs.length s.c1, .slice s.a2 l.unders.length s.c2, .slice s.a3 l.instrs.length s.c3, .slice s.a4 l.accts.length s.c4, .slice s.a5 l.poss.length s.c5, .slice s.a6 l.orders.length s.c6, .slice s.a7 l.avail.length s.c7, .slice s.a8 l.locs.length s.c8] 31)) 33 #[.int .i64 x.kind, .int .i64 x.acct, .int .i64 x.id, .int .i64 x.new, .int .i64 x.instr, .int .i64 x.under, .int .i64 x.cur, .int .i64 x.qty, .int .i64 x.price, .int .i64 x.amount, .bool x.call, .string ⟨x.name.toArray⟩]
    rw [World.size_alloc] at a2
    exact ⟨(ledH_new w s l vs hat).alloc _, a2⟩
  have D0 := Lib.hid (fun W => iwakes_calls W)
  have DW := Lib.hid (fun W h => iwide_calls s l vs W h hb)
  have HF := Lib.hid (fun h => ifit_of hok hat h)
  clear hat hok hb
  unfold ledV at DW ⊢
  unfold evV
  go_enter Tryd.func3, Tryd.ntmps3
  go_upto_region 1 with fail
  change Code.wp _ _ _ _ ((w.alloc (.cells #[.int .i64 l.day, .slice s.a1 l.curs.length s.c1, .slice s.a2 l.unders.length s.c2, .slice s.a3 l.instrs.length s.c3, .slice s.a4 l.accts.length s.c4, .slice s.a5 l.poss.length s.c5, .slice s.a6 l.orders.length s.c6, .slice s.a7 l.avail.length s.c7, .slice s.a8 l.locs.length s.c8] 31)).alloc (.cells #[.int .i64 x.kind, .int .i64 x.acct, .int .i64 x.id, .int .i64 x.new, .int .i64 x.instr, .int .i64 x.under, .int .i64 x.cur, .int .i64 x.qty, .int .i64 x.price, .int .i64 x.amount, .bool x.call, .string ⟨x.name.toArray⟩] 33))
  generalize (w.alloc (.cells #[.int .i64 l.day, .slice s.a1 l.curs.length s.c1, .slice s.a2 l.unders.length s.c2, .slice s.a3 l.instrs.length s.c3, .slice s.a4 l.accts.length s.c4, .slice s.a5 l.poss.length s.c5, .slice s.a6 l.orders.length s.c6, .slice s.a7 l.avail.length s.c7, .slice s.a8 l.locs.length s.c8] 31)).alloc (.cells #[.int .i64 x.kind, .int .i64 x.acct, .int .i64 x.id, .int .i64 x.new, .int .i64 x.instr, .int .i64 x.under, .int .i64 x.cur, .int .i64 x.qty, .int .i64 x.price, .int .i64 x.amount, .bool x.call, .string ⟨x.name.toArray⟩] 33) = w0 at *
  have XH := Lib.hid X
  clear X
  cases hw : iwideF l with
  | true =>
    rw [hw] at DW
    clear hw HF
    go_wp2_with (first | (go_at_call 7; refine (D0.out _).mono ?_; rintro e w1 ⟨rfl, b1⟩; have X1 := Lib.hid (XH.out.keep b1); have k0 := X1.out.led.c0; have k1 := X1.out.led.c1; have k2 := X1.out.led.c2; have k3 := X1.out.led.c3; have k4 := X1.out.led.c4; have k5 := X1.out.led.c5; have k6 := X1.out.led.c6; have k7 := X1.out.led.c7; have k8 := X1.out.led.c8) | (go_at_call 8; refine (DW.out _ X1.out.led.at_).mono ?_; rintro e w2 ⟨rfl, b2⟩))
    go_ret
    exact ⟨rfl, X1.out.led.low.trans (b2.mono X1.out.led.low.size)⟩
  | false =>
  rw [hw] at DW
  have hf := HF.out hw
  have HI := Lib.hid (fun W h => image_calls s l vs W h hf)
  have HR := Lib.hid (fun W h => rimage_calls s l vs W h hf)
  have HE := Lib.hid (fun W => event_calls x W hn)
  have HQ := Lib.hid (fun W => revent_calls x W hn)
  unfold ledV at HI HR
  unfold evV at HE HQ
  have hsz1 := image_size l hf
  have hsz2 := event_size x
  clear hw HF hf
  go_upto_region 5 with (first | (go_at_call 7; refine (D0.out _).mono ?_; rintro e w1 ⟨rfl, b1⟩; have X1 := Lib.hid (XH.out.keep b1); have k0 := X1.out.led.c0; have k1 := X1.out.led.c1; have k2 := X1.out.led.c2; have k3 := X1.out.led.c3; have k4 := X1.out.led.c4; have k5 := X1.out.led.c5; have k6 := X1.out.led.c6; have k7 := X1.out.led.c7; have k8 := X1.out.led.c8) | (go_at_call 8; refine (DW.out _ X1.out.led.at_).mono ?_; rintro e w2 ⟨rfl, b2⟩; have X2 := Lib.hid (X1.out.keep b2)))
  clear k0 k1 k2 k3 k4 k5 k6 k7 k8 XH X1 b1 b2 D0 DW
  have k0 := X2.out.led.c0
  have k1 := X2.out.led.c1
  have k2 := X2.out.led.c2
  have k3 := X2.out.led.c3
  have k4 := X2.out.led.c4
  have k5 := X2.out.led.c5
  have k6 := X2.out.led.c6
  have k7 := X2.out.led.c7
  have k8 := X2.out.led.c8
  generalize imageF l = q at HI HR hsz1
  obtain ⟨q1, q2⟩ := q
  go_upto_region 6 with (go_at_call 9; refine (HI.out _ X2.out.led.at_).mono ?_; rintro e w3 ⟨o3, rfl, own3, b3⟩)
  have X3 := Lib.hid (X2.out.keep b3)
  obtain ⟨a3, c3, rfl, _, _, at3, _, _⟩ := at_of_owns own3
  have A3 := Lib.hid at3
  clear k0 k1 k2 k3 k4 k5 k6 k7 k8 X2 b3 own3 HI at3
  have k0 := X3.out.led.c0
  have k1 := X3.out.led.c1
  have k2 := X3.out.led.c2
  have k3 := X3.out.led.c3
  have k4 := X3.out.led.c4
  have k5 := X3.out.led.c5
  have k6 := X3.out.led.c6
  have k7 := X3.out.led.c7
  have k8 := X3.out.led.c8
  go_upto_region 7 with (go_at_call 10; refine (HR.out _ X3.out.led.at_).mono ?_; rintro e w4 ⟨o4, rfl, own4, b4⟩)
  have X4 := Lib.hid (X3.out.keep b4)
  have B3 := Lib.hid (A3.out.keep b4)
  obtain ⟨a4, c4, rfl, _, _, at4, _, _⟩ := at_of_owns own4
  have A4 := Lib.hid at4
  clear k0 k1 k2 k3 k4 k5 k6 k7 k8 X3 b4 own4 HR at4 A3
  have j0 : w4.cell? ⟨w.heap.size + 1, 0, none⟩ = some (.int .i64 x.kind) := X4.out.ev.cell 0
  have j1 : w4.cell? ⟨w.heap.size + 1, 1, none⟩ = some (.int .i64 x.acct) := X4.out.ev.cell 1
  have j2 : w4.cell? ⟨w.heap.size + 1, 2, none⟩ = some (.int .i64 x.id) := X4.out.ev.cell 2
  have j3 : w4.cell? ⟨w.heap.size + 1, 3, none⟩ = some (.int .i64 x.new) := X4.out.ev.cell 3
  have j4 : w4.cell? ⟨w.heap.size + 1, 4, none⟩ = some (.int .i64 x.instr) := X4.out.ev.cell 4
  have j5 : w4.cell? ⟨w.heap.size + 1, 5, none⟩ = some (.int .i64 x.under) := X4.out.ev.cell 5
  have j6 : w4.cell? ⟨w.heap.size + 1, 6, none⟩ = some (.int .i64 x.cur) := X4.out.ev.cell 6
  have j7 : w4.cell? ⟨w.heap.size + 1, 7, none⟩ = some (.int .i64 x.qty) := X4.out.ev.cell 7
  have j8 : w4.cell? ⟨w.heap.size + 1, 8, none⟩ = some (.int .i64 x.price) := X4.out.ev.cell 8
  have j9 : w4.cell? ⟨w.heap.size + 1, 9, none⟩ = some (.int .i64 x.amount) := X4.out.ev.cell 9
  have j10 : w4.cell? ⟨w.heap.size + 1, 10, none⟩ = some (.bool x.call) := X4.out.ev.cell 10
  have j11 : w4.cell? ⟨w.heap.size + 1, 11, none⟩ = some (.string ⟨x.name.toArray⟩) := X4.out.ev.cell 11
  generalize eventF x = r at HE HQ hsz2
  obtain ⟨r1, r2⟩ := r
  go_upto_region 8 with (go_at_call 11; refine (HE.out _).mono ?_; rintro e w5 ⟨o5, rfl, own5, b5⟩)
  have X5 := Lib.hid (X4.out.keep b5)
  have C3 := Lib.hid (B3.out.keep b5)
  have B4 := Lib.hid (A4.out.keep b5)
  obtain ⟨a5, c5, rfl, _, _, at5, _, _⟩ := at_of_owns own5
  have A5 := Lib.hid at5
  clear j0 j1 j2 j3 j4 j5 j6 j7 j8 j9 j10 j11 X4 b5 own5 HE at5 B3 A4
  have j0 : w5.cell? ⟨w.heap.size + 1, 0, none⟩ = some (.int .i64 x.kind) := X5.out.ev.cell 0
  have j1 : w5.cell? ⟨w.heap.size + 1, 1, none⟩ = some (.int .i64 x.acct) := X5.out.ev.cell 1
  have j2 : w5.cell? ⟨w.heap.size + 1, 2, none⟩ = some (.int .i64 x.id) := X5.out.ev.cell 2
  have j3 : w5.cell? ⟨w.heap.size + 1, 3, none⟩ = some (.int .i64 x.new) := X5.out.ev.cell 3
  have j4 : w5.cell? ⟨w.heap.size + 1, 4, none⟩ = some (.int .i64 x.instr) := X5.out.ev.cell 4
  have j5 : w5.cell? ⟨w.heap.size + 1, 5, none⟩ = some (.int .i64 x.under) := X5.out.ev.cell 5
  have j6 : w5.cell? ⟨w.heap.size + 1, 6, none⟩ = some (.int .i64 x.cur) := X5.out.ev.cell 6
  have j7 : w5.cell? ⟨w.heap.size + 1, 7, none⟩ = some (.int .i64 x.qty) := X5.out.ev.cell 7
  have j8 : w5.cell? ⟨w.heap.size + 1, 8, none⟩ = some (.int .i64 x.price) := X5.out.ev.cell 8
  have j9 : w5.cell? ⟨w.heap.size + 1, 9, none⟩ = some (.int .i64 x.amount) := X5.out.ev.cell 9
  have j10 : w5.cell? ⟨w.heap.size + 1, 10, none⟩ = some (.bool x.call) := X5.out.ev.cell 10
  have j11 : w5.cell? ⟨w.heap.size + 1, 11, none⟩ = some (.string ⟨x.name.toArray⟩) := X5.out.ev.cell 11
  go_upto_region 9 with (go_at_call 12; refine (HQ.out _).mono ?_; rintro e w6 ⟨o6, rfl, own6, b6⟩)
  have X6 := Lib.hid (X5.out.keep b6)
  have D3 := Lib.hid (C3.out.keep b6)
  have C4 := Lib.hid (B4.out.keep b6)
  have B5 := Lib.hid (A5.out.keep b6)
  obtain ⟨a6, c6, rfl, _, _, at6, _, _⟩ := at_of_owns own6
  have A6 := Lib.hid at6
  clear j0 j1 j2 j3 j4 j5 j6 j7 j8 j9 j10 j11 X5 b6 own6 HQ at6 C3 B4 A5
  have S1 := Lib.hid (isame_calls a3 a4 c3 c4 q1 q1 w6 hsz1 hsz1 D3.out C4.out)
  have S2 := Lib.hid (fun W (b : Below w6.heap.size w6 W) => isame_calls a5 a6 c5 c6 r1 r1 W hsz2 hsz2 (B5.out.keep b) (A6.out.keep b))
  simp only [decide_true] at S1 S2
  go_wp2_with (first | (go_at_call 13; refine (S2.out _ b7).mono ?_; rintro e w8 ⟨rfl, hn8⟩; have b8 := bel_of hn8; clear hn8) | (go_at_call 13; refine S1.out.mono ?_; rintro e w7 ⟨rfl, hn7⟩; have b7 := bel_of hn7; clear hn7))
  go_ret
  have L7 := X6.out.led.low.trans (b7.mono X6.out.led.low.size)
  exact ⟨rfl, L7.trans (b8.mono L7.size)⟩

set_option maxRecDepth 100000 in
theorem opened (H : Type) (enc : TypeId × Value → H) (W : World) (base : Nat) (args : Array Value) (ds : List (DataW H)) (p : List MemPlace)
    (hval : ∀ (j : Nat) t v, Tryd.f3.params[j]? = some t → args[j]? = some v → Value.okWide Tryd.prog W .any base t v)
    (hA : DataW.TrodAll enc Tryd.prog W 0 (fun _ => true) true Tryd.f3.params.toList args.toList ds p)
    (hr : ∀ x ∈ DataW.weightsEach Tryd.prog Tryd.f3.params.toList ds, x ≤ reachBytes)
    (hL : laidMetH Tryd.prog Rows.imageMakesRow.laid W) :
    Calls Tryd.prog 3 args W fun e W' => e = .returned (.bool true) ∧ Below W.heap.size W W' := by
  rw [Tryd.params3] at hA hval hr
  have _ := hL
  obtain ⟨v0, vs0, d0, ds0, p0, q0, hargs, rfl, rfl, h0, r0⟩ := trodAll_cons hA
  obtain ⟨v1, vs1, d1, ds1, p1, q1, rfl, rfl, rfl, h1, r1⟩ := trodAll_cons r0
  obtain ⟨rfl, rfl, rfl⟩ := trodAll_nil r1
  obtain rfl : args = #[v0, v1] := by cases args; simp_all
  obtain ⟨s, l, vs, rfl, hat, hok, hb⟩ := open_ledger2 (hval 0 31 v0 rfl rfl) h0 (fun x hx => hr x (by simp only [DataW.weightsEach, List.mem_append]; exact .inl hx))
  obtain ⟨x, rfl, hn, _⟩ := open_evr (hval 1 33 v1 rfl rfl) h1 (fun x hx => hr x (by simp only [DataW.weightsEach, List.mem_append]; exact .inr (.inl hx)))
  exact walk s l vs x W hat hok hb hn
end Go.Proofs.YtocjfjikkdpfdaaDoor.imageMakes
