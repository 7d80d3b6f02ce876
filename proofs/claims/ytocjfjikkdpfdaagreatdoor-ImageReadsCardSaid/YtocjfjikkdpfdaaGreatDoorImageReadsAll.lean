/- ImageReads: Read and ReadEvent of any bytes answer what the document says; no condition of its own. -/
import Derived.Test.YtocjfjikkdpfdaaGreatDoorImgR
import Derived.Test.YtocjfjikkdpfdaaGreatDoorCards
import Derived.Test.YtocjfjikkdpfdaaGreatDoorTie
import Derived.SevenTiedAt
set_option linter.unusedSimpArgs false
set_option linter.unusedVariables false
namespace Go.Proofs.YtocjfjikkdpfdaaGreatDoor.imageReads
open Go.ChangeShapes Go.WideShapes Go.ChangeAt Go.RowKit Go.Proofs.YtocjfjikkdpfdaaGreatDoor.Bas Go.Proofs.YtocjfjikkdpfdaaGreatDoor.LedM Go.Proofs.YtocjfjikkdpfdaaGreatDoor.LedW Go.Proofs.YtocjfjikkdpfdaaGreatDoor.ImgW

set_option maxHeartbeats 16000000 in
set_option maxRecDepth 100000 in
theorem walk (bs : List UInt8) (a : Option Addr) (cap : Nat) (w : World) (hbl : bs.length ≤ cap) (hcm : cap ≤ maxLen) (hb63 : bs.length ≤ 140737488351232) (hat : At w a (u8s bs)) :
    Calls Tryz.prog 4 #[.slice a bs.length cap] w fun e w' => e = .returned (.bool true) ∧ Below w.heap.size w w' := by
  have D0 := Lib.hid (fun W => iwakes_calls W)
  have HAT := Lib.hid hat
  have H1 := Lib.hid (fun W h => readl_calls bs a cap W h hbl hcm)
  have H2 := Lib.hid (fun W h => rreadl_calls bs a cap W h hbl hcm)
  have H3 := Lib.hid (fun W h => readevent_calls bs a cap W h hbl hcm)
  have H4 := Lib.hid (fun W h => rreadevent_calls bs a cap W h hbl hcm)
  have HF := readL_fit bs
  clear hat
  generalize readL bs = p at *
  generalize readE bs = q at *
  obtain ⟨y, ky⟩ := p
  obtain ⟨x, kx⟩ := q
  simp only at H1 H2 H3 H4 HF
  have HS := Lib.hid (fun W s us r vs h h' => rsame_calls s y us r y vs W h h' HF HF)
  simp only [decide_true] at HS
  have hq : ∀ W : World, (binOp .eql 33 (.agg #[.int .i64 x.kind, .int .i64 x.acct, .int .i64 x.id, .int .i64 x.new, .int .i64 x.instr, .int .i64 x.under, .int .i64 x.cur, .int .i64 x.qty, .int .i64 x.price, .int .i64 x.amount, .bool x.call, .string ⟨x.name.toArray⟩]) (.agg #[.int .i64 x.kind, .int .i64 x.acct, .int .i64 x.id, .int .i64 x.new, .int .i64 x.instr, .int .i64 x.under, .int .i64 x.cur, .int .i64 x.qty, .int .i64 x.price, .int .i64 x.amount, .bool x.call, .string ⟨x.name.toArray⟩])).run Tryz.prog W = .ok (.bool true) W := fun W => by have := eql_ev2 W x x; simpa using this
  have HQ := Lib.hid hq
  unfold ledV at H1 H2 HS
  unfold evV at H3 H4
  clear HF hq
  go_enter Tryz.func4, Tryz.ntmps4
  go_upto_region 4 with (first | (go_at_call 5; refine (D0.out _).mono ?_; rintro e w1 ⟨rfl, b1⟩) | (go_at_call 11; refine (H1.out _ (HAT.out.keep b1)).mono ?_; rintro e w2 ⟨s, us, rfl, own2, b2⟩; have HB2 := Box.new w2 31 #[.int .i64 0, .slice none 0 0, .slice none 0 0, .slice none 0 0, .slice none 0 0, .slice none 0 0, .slice none 0 0, .slice none 0 0, .slice none 0 0]) | ((with_reducible refine wpList_store_box rfl 31 (.tmp 3) (.tmp 16) rfl #[.int .i64 y.day, .slice s.a1 y.curs.length s.c1, .slice s.a2 y.unders.length s.c2, .slice s.a3 y.instrs.length s.c3, .slice s.a4 y.accts.length s.c4, .slice s.a5 y.poss.length s.c5, .slice s.a6 y.orders.length s.c6, .slice s.a7 y.avail.length s.c7, .slice s.a8 y.locs.length s.c8] HB2 ?_ ?_ ?_ ?_ ?_ ?_); (· kernel_rfl); (· rfl); (· simp [Value.oneCell']); (· rfl); (· rfl)))
  have L2 := b1.trans (b2.mono b1.size)
  have b3 : Below w2.heap.size w2 ((w2.alloc (.cells #[.int .i64 0, .slice none 0 0, .slice none 0 0, .slice none 0 0, .slice none 0 0, .slice none 0 0, .slice none 0 0, .slice none 0 0, .slice none 0 0] 31)).setRow w2.heap.size #[.int .i64 y.day, .slice s.a1 y.curs.length s.c1, .slice s.a2 y.unders.length s.c2, .slice s.a3 y.instrs.length s.c3, .slice s.a4 y.accts.length s.c4, .slice s.a5 y.poss.length s.c5, .slice s.a6 y.orders.length s.c6, .slice s.a7 y.avail.length s.c7, .slice s.a8 y.locs.length s.c8]) := below_setRow ((Below.refl _ _).alloc (Nat.le_refl _) _) (Nat.le_refl _) _
  have L3 := Lib.hid (L2.trans (b3.mono L2.size))
  have O3 := Lib.hid (own2.below b3)
  have B3 := Lib.hid (HB2.row #[.int .i64 y.day, .slice s.a1 y.curs.length s.c1, .slice s.a2 y.unders.length s.c2, .slice s.a3 y.instrs.length s.c3, .slice s.a4 y.accts.length s.c4, .slice s.a5 y.poss.length s.c5, .slice s.a6 y.orders.length s.c6, .slice s.a7 y.avail.length s.c7, .slice s.a8 y.locs.length s.c8])
  have hz3 : w2.heap.size < ((w2.alloc (.cells #[.int .i64 0, .slice none 0 0, .slice none 0 0, .slice none 0 0, .slice none 0 0, .slice none 0 0, .slice none 0 0, .slice none 0 0, .slice none 0 0] 31)).setRow w2.heap.size #[.int .i64 y.day, .slice s.a1 y.curs.length s.c1, .slice s.a2 y.unders.length s.c2, .slice s.a3 y.instrs.length s.c3, .slice s.a4 y.accts.length s.c4, .slice s.a5 y.poss.length s.c5, .slice s.a6 y.orders.length s.c6, .slice s.a7 y.avail.length s.c7, .slice s.a8 y.locs.length s.c8]).heap.size := (HB2.row #[.int .i64 y.day, .slice s.a1 y.curs.length s.c1, .slice s.a2 y.unders.length s.c2, .slice s.a3 y.instrs.length s.c3, .slice s.a4 y.accts.length s.c4, .slice s.a5 y.poss.length s.c5, .slice s.a6 y.orders.length s.c6, .slice s.a7 y.avail.length s.c7, .slice s.a8 y.locs.length s.c8]).lt
  clear b1 b2 b3 L2 HB2 own2 D0 H1
  generalize (w2.alloc (.cells #[.int .i64 0, .slice none 0 0, .slice none 0 0, .slice none 0 0, .slice none 0 0, .slice none 0 0, .slice none 0 0, .slice none 0 0, .slice none 0 0] 31)).setRow w2.heap.size #[.int .i64 y.day, .slice s.a1 y.curs.length s.c1, .slice s.a2 y.unders.length s.c2, .slice s.a3 y.instrs.length s.c3, .slice s.a4 y.accts.length s.c4, .slice s.a5 y.poss.length s.c5, .slice s.a6 y.orders.length s.c6, .slice s.a7 y.avail.length s.c7, .slice s.a8 y.locs.length s.c8] = w3 at *
  generalize w2.heap.size = g3 at *
  go_upto_region 5 with (first | (go_at_call 15; refine (H2.out _ (HAT.out.keep L3.out)).mono ?_; rintro e w4 ⟨r, vs, rfl, own4, b4⟩; have HB4 := Box.new w4 31 #[.int .i64 0, .slice none 0 0, .slice none 0 0, .slice none 0 0, .slice none 0 0, .slice none 0 0, .slice none 0 0, .slice none 0 0, .slice none 0 0]) | ((with_reducible refine wpList_store_box rfl 31 (.tmp 5) (.tmp 21) rfl #[.int .i64 y.day, .slice r.a1 y.curs.length r.c1, .slice r.a2 y.unders.length r.c2, .slice r.a3 y.instrs.length r.c3, .slice r.a4 y.accts.length r.c4, .slice r.a5 y.poss.length r.c5, .slice r.a6 y.orders.length r.c6, .slice r.a7 y.avail.length r.c7, .slice r.a8 y.locs.length r.c8] HB4 ?_ ?_ ?_ ?_ ?_ ?_); (· kernel_rfl); (· rfl); (· simp [Value.oneCell']); (· rfl); (· rfl)))
  have b5 : Below w4.heap.size w4 ((w4.alloc (.cells #[.int .i64 0, .slice none 0 0, .slice none 0 0, .slice none 0 0, .slice none 0 0, .slice none 0 0, .slice none 0 0, .slice none 0 0, .slice none 0 0] 31)).setRow w4.heap.size #[.int .i64 y.day, .slice r.a1 y.curs.length r.c1, .slice r.a2 y.unders.length r.c2, .slice r.a3 y.instrs.length r.c3, .slice r.a4 y.accts.length r.c4, .slice r.a5 y.poss.length r.c5, .slice r.a6 y.orders.length r.c6, .slice r.a7 y.avail.length r.c7, .slice r.a8 y.locs.length r.c8]) := below_setRow ((Below.refl _ _).alloc (Nat.le_refl _) _) (Nat.le_refl _) _
  have bb := b4.trans (b5.mono b4.size)
  have L5 := Lib.hid (L3.out.trans (bb.mono L3.out.size))
  have O5 := Lib.hid (O3.out.below bb)
  have C3 := Lib.hid (B3.out.keep bb)
  have P5 := Lib.hid (own4.below b5)
  have B5 := Lib.hid (HB4.row #[.int .i64 y.day, .slice r.a1 y.curs.length r.c1, .slice r.a2 y.unders.length r.c2, .slice r.a3 y.instrs.length r.c3, .slice r.a4 y.accts.length r.c4, .slice r.a5 y.poss.length r.c5, .slice r.a6 y.orders.length r.c6, .slice r.a7 y.avail.length r.c7, .slice r.a8 y.locs.length r.c8])
  clear b4 b5 bb HB4 own4 L3 O3 B3 H2
  generalize (w4.alloc (.cells #[.int .i64 0, .slice none 0 0, .slice none 0 0, .slice none 0 0, .slice none 0 0, .slice none 0 0, .slice none 0 0, .slice none 0 0, .slice none 0 0] 31)).setRow w4.heap.size #[.int .i64 y.day, .slice r.a1 y.curs.length r.c1, .slice r.a2 y.unders.length r.c2, .slice r.a3 y.instrs.length r.c3, .slice r.a4 y.accts.length r.c4, .slice r.a5 y.poss.length r.c5, .slice r.a6 y.orders.length r.c6, .slice r.a7 y.avail.length r.c7, .slice r.a8 y.locs.length r.c8] = w5 at *
  generalize w4.heap.size = g5 at *
  go_upto_region 6 with (first | (go_at_call 16; refine (H3.out _ (HAT.out.keep L5.out)).mono ?_; rintro e w6 ⟨rfl, b6⟩; have HB6 := Box.new w6 33 #[.int .i64 0, .int .i64 0, .int .i64 0, .int .i64 0, .int .i64 0, .int .i64 0, .int .i64 0, .int .i64 0, .int .i64 0, .int .i64 0, .bool false, .string ⟨#[]⟩]) | ((with_reducible refine wpList_store_box rfl 33 (.tmp 7) (.tmp 26) rfl #[.int .i64 x.kind, .int .i64 x.acct, .int .i64 x.id, .int .i64 x.new, .int .i64 x.instr, .int .i64 x.under, .int .i64 x.cur, .int .i64 x.qty, .int .i64 x.price, .int .i64 x.amount, .bool x.call, .string ⟨x.name.toArray⟩] HB6 ?_ ?_ ?_ ?_ ?_ ?_); (· kernel_rfl); (· rfl); (· simp [Value.oneCell']); (· rfl); (· rfl)))
  have b7 : Below w6.heap.size w6 ((w6.alloc (.cells #[.int .i64 0, .int .i64 0, .int .i64 0, .int .i64 0, .int .i64 0, .int .i64 0, .int .i64 0, .int .i64 0, .int .i64 0, .int .i64 0, .bool false, .string ⟨#[]⟩] 33)).setRow w6.heap.size #[.int .i64 x.kind, .int .i64 x.acct, .int .i64 x.id, .int .i64 x.new, .int .i64 x.instr, .int .i64 x.under, .int .i64 x.cur, .int .i64 x.qty, .int .i64 x.price, .int .i64 x.amount, .bool x.call, .string ⟨x.name.toArray⟩]) := below_setRow ((Below.refl _ _).alloc (Nat.le_refl _) _) (Nat.le_refl _) _
  have bb := b6.trans (b7.mono b6.size)
  have L7 := Lib.hid (L5.out.trans (bb.mono L5.out.size))
  have O7 := Lib.hid (O5.out.below bb)
  have P7 := Lib.hid (P5.out.below bb)
  have D3 := Lib.hid (C3.out.keep bb)
  have D5 := Lib.hid (B5.out.keep bb)
  have B7 := Lib.hid (HB6.row #[.int .i64 x.kind, .int .i64 x.acct, .int .i64 x.id, .int .i64 x.new, .int .i64 x.instr, .int .i64 x.under, .int .i64 x.cur, .int .i64 x.qty, .int .i64 x.price, .int .i64 x.amount, .bool x.call, .string ⟨x.name.toArray⟩])
  clear b6 b7 bb HB6 L5 O5 P5 C3 B5 H3
  generalize (w6.alloc (.cells #[.int .i64 0, .int .i64 0, .int .i64 0, .int .i64 0, .int .i64 0, .int .i64 0, .int .i64 0, .int .i64 0, .int .i64 0, .int .i64 0, .bool false, .string ⟨#[]⟩] 33)).setRow w6.heap.size #[.int .i64 x.kind, .int .i64 x.acct, .int .i64 x.id, .int .i64 x.new, .int .i64 x.instr, .int .i64 x.under, .int .i64 x.cur, .int .i64 x.qty, .int .i64 x.price, .int .i64 x.amount, .bool x.call, .string ⟨x.name.toArray⟩] = w7 at *
  generalize w6.heap.size = g7 at *
  go_upto_region 7 with (first | (go_at_call 17; refine (H4.out _ (HAT.out.keep L7.out)).mono ?_; rintro e w8 ⟨rfl, b8⟩; have HB8 := Box.new w8 33 #[.int .i64 0, .int .i64 0, .int .i64 0, .int .i64 0, .int .i64 0, .int .i64 0, .int .i64 0, .int .i64 0, .int .i64 0, .int .i64 0, .bool false, .string ⟨#[]⟩]) | ((with_reducible refine wpList_store_box rfl 33 (.tmp 9) (.tmp 31) rfl #[.int .i64 x.kind, .int .i64 x.acct, .int .i64 x.id, .int .i64 x.new, .int .i64 x.instr, .int .i64 x.under, .int .i64 x.cur, .int .i64 x.qty, .int .i64 x.price, .int .i64 x.amount, .bool x.call, .string ⟨x.name.toArray⟩] HB8 ?_ ?_ ?_ ?_ ?_ ?_); (· kernel_rfl); (· rfl); (· simp [Value.oneCell']); (· rfl); (· rfl)))
  have b9 : Below w8.heap.size w8 ((w8.alloc (.cells #[.int .i64 0, .int .i64 0, .int .i64 0, .int .i64 0, .int .i64 0, .int .i64 0, .int .i64 0, .int .i64 0, .int .i64 0, .int .i64 0, .bool false, .string ⟨#[]⟩] 33)).setRow w8.heap.size #[.int .i64 x.kind, .int .i64 x.acct, .int .i64 x.id, .int .i64 x.new, .int .i64 x.instr, .int .i64 x.under, .int .i64 x.cur, .int .i64 x.qty, .int .i64 x.price, .int .i64 x.amount, .bool x.call, .string ⟨x.name.toArray⟩]) := below_setRow ((Below.refl _ _).alloc (Nat.le_refl _) _) (Nat.le_refl _) _
  have bb := b8.trans (b9.mono b8.size)
  have L9 := Lib.hid (L7.out.trans (bb.mono L7.out.size))
  have O9 := Lib.hid (O7.out.below bb)
  have P9 := Lib.hid (P7.out.below bb)
  have E3 := Lib.hid (D3.out.keep bb)
  have E5 := Lib.hid (D5.out.keep bb)
  have E7 := Lib.hid (B7.out.keep bb)
  have E9 := Lib.hid (HB8.row #[.int .i64 x.kind, .int .i64 x.acct, .int .i64 x.id, .int .i64 x.new, .int .i64 x.instr, .int .i64 x.under, .int .i64 x.cur, .int .i64 x.qty, .int .i64 x.price, .int .i64 x.amount, .bool x.call, .string ⟨x.name.toArray⟩])
  clear b8 b9 bb HB8 L7 O7 P7 D3 D5 B7 H4
  generalize (w8.alloc (.cells #[.int .i64 0, .int .i64 0, .int .i64 0, .int .i64 0, .int .i64 0, .int .i64 0, .int .i64 0, .int .i64 0, .int .i64 0, .int .i64 0, .bool false, .string ⟨#[]⟩] 33)).setRow w8.heap.size #[.int .i64 x.kind, .int .i64 x.acct, .int .i64 x.id, .int .i64 x.new, .int .i64 x.instr, .int .i64 x.under, .int .i64 x.cur, .int .i64 x.qty, .int .i64 x.price, .int .i64 x.amount, .bool x.call, .string ⟨x.name.toArray⟩] = w9 at *
  generalize w8.heap.size = g9 at *
  have hq := HQ.out
  have c0 : w9.cell? ⟨g3, 0, none⟩ = some (.int .i64 y.day) := E3.out.cell 0
  have c1 : w9.cell? ⟨g3, 1, none⟩ = some (.slice s.a1 y.curs.length s.c1) := E3.out.cell 1
  have c2 : w9.cell? ⟨g3, 2, none⟩ = some (.slice s.a2 y.unders.length s.c2) := E3.out.cell 2
  have c3 : w9.cell? ⟨g3, 3, none⟩ = some (.slice s.a3 y.instrs.length s.c3) := E3.out.cell 3
  have c4 : w9.cell? ⟨g3, 4, none⟩ = some (.slice s.a4 y.accts.length s.c4) := E3.out.cell 4
  have c5 : w9.cell? ⟨g3, 5, none⟩ = some (.slice s.a5 y.poss.length s.c5) := E3.out.cell 5
  have c6 : w9.cell? ⟨g3, 6, none⟩ = some (.slice s.a6 y.orders.length s.c6) := E3.out.cell 6
  have c7 : w9.cell? ⟨g3, 7, none⟩ = some (.slice s.a7 y.avail.length s.c7) := E3.out.cell 7
  have c8 : w9.cell? ⟨g3, 8, none⟩ = some (.slice s.a8 y.locs.length s.c8) := E3.out.cell 8
  have d0 : w9.cell? ⟨g5, 0, none⟩ = some (.int .i64 y.day) := E5.out.cell 0
  have d1 : w9.cell? ⟨g5, 1, none⟩ = some (.slice r.a1 y.curs.length r.c1) := E5.out.cell 1
  have d2 : w9.cell? ⟨g5, 2, none⟩ = some (.slice r.a2 y.unders.length r.c2) := E5.out.cell 2
  have d3 : w9.cell? ⟨g5, 3, none⟩ = some (.slice r.a3 y.instrs.length r.c3) := E5.out.cell 3
  have d4 : w9.cell? ⟨g5, 4, none⟩ = some (.slice r.a4 y.accts.length r.c4) := E5.out.cell 4
  have d5 : w9.cell? ⟨g5, 5, none⟩ = some (.slice r.a5 y.poss.length r.c5) := E5.out.cell 5
  have d6 : w9.cell? ⟨g5, 6, none⟩ = some (.slice r.a6 y.orders.length r.c6) := E5.out.cell 6
  have d7 : w9.cell? ⟨g5, 7, none⟩ = some (.slice r.a7 y.avail.length r.c7) := E5.out.cell 7
  have d8 : w9.cell? ⟨g5, 8, none⟩ = some (.slice r.a8 y.locs.length r.c8) := E5.out.cell 8
  go_wp2_with (go_at_call 10; refine (HS.out _ _ _ _ _ O9.out.at_ P9.out.at_).mono ?_; rintro e w10 ⟨rfl, b10⟩; clear c0 d0 c1 d1 c2 d2 c3 d3 c4 d4 c5 d5 c6 d6 c7 d7 c8 d8; have m0 : w10.cell? ⟨g7, 0, none⟩ = some (.int .i64 x.kind) := (E7.out.keep b10).cell 0; have m1 : w10.cell? ⟨g7, 1, none⟩ = some (.int .i64 x.acct) := (E7.out.keep b10).cell 1; have m2 : w10.cell? ⟨g7, 2, none⟩ = some (.int .i64 x.id) := (E7.out.keep b10).cell 2; have m3 : w10.cell? ⟨g7, 3, none⟩ = some (.int .i64 x.new) := (E7.out.keep b10).cell 3; have m4 : w10.cell? ⟨g7, 4, none⟩ = some (.int .i64 x.instr) := (E7.out.keep b10).cell 4; have m5 : w10.cell? ⟨g7, 5, none⟩ = some (.int .i64 x.under) := (E7.out.keep b10).cell 5; have m6 : w10.cell? ⟨g7, 6, none⟩ = some (.int .i64 x.cur) := (E7.out.keep b10).cell 6; have m7 : w10.cell? ⟨g7, 7, none⟩ = some (.int .i64 x.qty) := (E7.out.keep b10).cell 7; have m8 : w10.cell? ⟨g7, 8, none⟩ = some (.int .i64 x.price) := (E7.out.keep b10).cell 8; have m9 : w10.cell? ⟨g7, 9, none⟩ = some (.int .i64 x.amount) := (E7.out.keep b10).cell 9; have m10 : w10.cell? ⟨g7, 10, none⟩ = some (.bool x.call) := (E7.out.keep b10).cell 10; have m11 : w10.cell? ⟨g7, 11, none⟩ = some (.string ⟨x.name.toArray⟩) := (E7.out.keep b10).cell 11; have n0 : w10.cell? ⟨g9, 0, none⟩ = some (.int .i64 x.kind) := (E9.out.keep b10).cell 0; have n1 : w10.cell? ⟨g9, 1, none⟩ = some (.int .i64 x.acct) := (E9.out.keep b10).cell 1; have n2 : w10.cell? ⟨g9, 2, none⟩ = some (.int .i64 x.id) := (E9.out.keep b10).cell 2; have n3 : w10.cell? ⟨g9, 3, none⟩ = some (.int .i64 x.new) := (E9.out.keep b10).cell 3; have n4 : w10.cell? ⟨g9, 4, none⟩ = some (.int .i64 x.instr) := (E9.out.keep b10).cell 4; have n5 : w10.cell? ⟨g9, 5, none⟩ = some (.int .i64 x.under) := (E9.out.keep b10).cell 5; have n6 : w10.cell? ⟨g9, 6, none⟩ = some (.int .i64 x.cur) := (E9.out.keep b10).cell 6; have n7 : w10.cell? ⟨g9, 7, none⟩ = some (.int .i64 x.qty) := (E9.out.keep b10).cell 7; have n8 : w10.cell? ⟨g9, 8, none⟩ = some (.int .i64 x.price) := (E9.out.keep b10).cell 8; have n9 : w10.cell? ⟨g9, 9, none⟩ = some (.int .i64 x.amount) := (E9.out.keep b10).cell 9; have n10 : w10.cell? ⟨g9, 10, none⟩ = some (.bool x.call) := (E9.out.keep b10).cell 10; have n11 : w10.cell? ⟨g9, 11, none⟩ = some (.string ⟨x.name.toArray⟩) := (E9.out.keep b10).cell 11)
  go_ret
  exact ⟨rfl, L9.out.trans (b10.mono L9.out.size)⟩

set_option maxRecDepth 100000 in
theorem opened (H : Type) (enc : TypeId × Value → H) (W : World) (base : Nat) (args : Array Value) (ds : List (DataW H)) (p : List MemPlace)
    (hval : ∀ (j : Nat) t v, Tryz.f4.params[j]? = some t → args[j]? = some v → Value.okWide Tryz.prog W .any base t v)
    (hA : DataW.TrodAll enc Tryz.prog W 0 (fun _ => true) true Tryz.f4.params.toList args.toList ds p)
    (hr : ∀ x ∈ DataW.weightsEach Tryz.prog Tryz.f4.params.toList ds, x ≤ reachBytes)
    (hL : laidMetH Tryz.prog Rows.imageReadsRow.laid W) :
    Calls Tryz.prog 4 args W fun e W' => e = .returned (.bool true) ∧ Below W.heap.size W W' := by
  rw [Tryz.params4] at hA hval hr
  have _ := hL
  obtain ⟨v0, vs0, d0, ds0, p0, q0, hargs, rfl, rfl, h0, r0⟩ := trodAll_cons hA
  obtain ⟨rfl, rfl, rfl⟩ := trodAll_nil r0
  obtain rfl : args = #[v0] := by cases args; simp_all
  obtain ⟨a, l, cap, rfl, hat, hl, hm, hd⟩ := open_u8 Tryz.underlying37 Tryz.underlying5 cells8 (hval 0 37 v0 rfl rfl) h0
  have hreach := reach_slice (n := l.length) (cap := cap) Tryz.underlying37 hd (fun x hx => hr x (weights_each (i := 0) rfl rfl x hx))
  rw [bytes8] at hreach
  exact walk l a cap W hl hm (by omega) hat
end Go.Proofs.YtocjfjikkdpfdaaGreatDoor.imageReads
namespace Go.Proofs.YtocjfjikkdpfdaaGreatDoor.imageReads
open Go.ChangeShapes Go.WideShapes Go.ChangeAt Go.RowKit Go.Proofs.YtocjfjikkdpfdaaGreatDoor.Bas

theorem own : ownKnob Tryz.prog.godebug = none := by kernel_rfl
theorem laidOut : laidOutB Tryz.prog = true := by kernel_rfl

set_option maxRecDepth 100000 in
theorem contract (H : Type) (enc : TypeId × Value → H) (W : World) (base : Nat) (args : Array Value) (ds gs : List (DataW H)) (before : List MemPlace)
    (hval : ∀ (j : Nat) t v, Tryz.f4.params[j]? = some t → args[j]? = some v → Value.okWide Tryz.prog W .any base t v)
    (hW : DataW.Whole enc Tryz.prog Tryz.f4.params.toList Rows.imageReadsSpec.vars false W args.toList ds gs before)
    (hr : (DataW.weightsEach Tryz.prog (Tryz.f4.params.toList ++ (OpenSpec.ofChange Rows.imageReadsSpec).bare.plain.varTypes Tryz.prog) (ds ++ gs)).all (· ≤ reachBytes) = true)
    (hL : laidMetH Tryz.prog Rows.imageReadsRow.laid W) :
    Calls Tryz.prog 4 args W fun e W' => ∃ v, e = .returned v ∧ Rows.imageReadsSpec.post enc Tryz.prog Tryz.f4 false true false false W args v W' := by
  refine law_post laidOut (by kernel_rfl) 4 rfl Tryz.underlying4 rfl (fun H ds h => match ds, h with | [_], _ => rfl) hW ?_
  obtain ⟨p, q, hA, hV, rfl, hfz, hnd⟩ := hW
  obtain ⟨rfl, rfl⟩ := trodVars_none hV
  rw [List.append_nil, List.all_eq_true] at hr
  exact opened H enc W base args ds p hval hA (fun x hx => by simpa using hr x (by rw [show Tryz.f4.params.toList ++ (OpenSpec.ofChange Rows.imageReadsSpec).bare.plain.varTypes Tryz.prog = Tryz.f4.params.toList from List.append_nil _]; exact hx)) hL

/-- a world for the witness -/
noncomputable def laidWorld (os : Os) : World :=
  { World.holding Tryz.prog os ⟨#[], #[], []⟩ with heap := (((World.holding Tryz.prog os ⟨#[], #[], []⟩).heap.modify 1 (fun
      | .cells _ t frozen => .cells ImgW.acceptCells t frozen
      | o => o)).modify 0 (fun
      | .cells _ t frozen => .cells ImgW.firstCells t frozen
      | o => o)) }
theorem laid_met (os : Os) : laidMet Tryz.prog Rows.imageReadsRow.laid ((laidWorld os).forCall (fun _ _ => 0) ⟨#[], #[.slice none 0 0], []⟩).memory :=
  laidMet_of_run' 8 (by kernel_rfl) (by kernel_rfl)
theorem reads (os : Os) {H : Type} (enc : TypeId × Value → H) : ∃ places, DataW.whole enc Tryz.prog ((laidWorld os).forCall (fun _ _ => 0) ⟨#[], #[.slice none 0 0], []⟩).memory Tryz.f4.params.toList Rows.imageReadsSpec.vars false (#[.slice none 0 0] : Array Value).toList 8 = some ([.nil], [], places) :=
  ⟨[], by kernel_rfl⟩

set_option maxRecDepth 100000 in
theorem lifted (os : Os) (started : os.Started) (H : Type) (enc : TypeId × Value → H) (F : Stop.Interp) :
    ReturnsInHanded {} Tryz.checked os 4 .any ((OpenSpec.ofChange Rows.imageReadsSpec).preRow enc Tryz.prog Tryz.f4 Rows.imageReadsRow.domain false Rows.imageReadsRow.laid) (((OpenSpec.ofChange Rows.imageReadsSpec).at F).post enc Tryz.prog Tryz.f4 false true false false) := by
  obtain ⟨places, hx⟩ := reads os enc
  refine returnsInHanded_of_row (C := Tryz.checked) (s := (OpenSpec.ofChange Rows.imageReadsSpec)) own started (by kernel_rfl) Tryz.func4
    (witness_row_at (enc := enc) (C := Tryz.checked) false (laidWorld os) #[.slice none 0 0] rfl (by kernel_rfl) (by kernel_rfl) (by kernel_rfl)
      (OpenSpec.preRow_of_cond 8 hx (by kernel_rfl) (fun k hk => by cases hk) (by kernel_rfl) (laid_met os))) ?_
  intro W base args ds gs before hval hW _ _ hr hL _ _
  exact contract H enc W base args ds gs before hval hW hr hL

theorem said : Rows.ImageReadsSaid :=
  OpenClaim.holds_of_cond 4 Tryz.f4 rfl rfl rfl rfl rfl rfl rfl ⟨rfl, rfl, rfl, rfl, rfl⟩ rfl rfl rfl rfl rfl (by kernel_rfl) Tryz.func4 (by kernel_rfl)
    (of_decide_eq_true (by kernel_rfl)) (by unfold Func.isWrapper; first | (rw [if_pos (by decide +kernel)]; kernel_rfl) | (rw [if_neg (by decide +kernel)]; exact ⟨rfl, rfl⟩))
    (fun os started H enc _ F => by rw [OpenClaim.pre_eq_preRow]; exact lifted os started H enc F)

theorem plain (f : FuncId) (fn : Func) (hf : Tryz.pinned.checked.prog.funcNamed "bulwark/bulwarklaw21.ImageReads" = some f) (hfn : Tryz.pinned.checked.prog.funcs[f]? = some fn) :
    true = Tryz.pinned.checked.prog.looks [] ∧ ∀ (j : Nat) t, fn.params[j]? = some t → Tryz.pinned.checked.prog.wantsStandIn t = false := by
  obtain rfl : f = 4 := Option.some.inj ((show Tryz.prog.funcNamed "bulwark/bulwarklaw21.ImageReads" = some 4 by kernel_rfl).symm.trans hf) |>.symm
  obtain rfl : fn = Tryz.f4 := (Option.some.inj (Tryz.func4.symm.trans hfn)).symm
  refine ⟨by kernel_rfl, fun j t ht => ?_⟩
  rw [Tryz.params4] at ht
  have hall : ∀ t ∈ #[37], Tryz.prog.wantsStandIn t = false := by
    intro t h
    simp only [List.mem_toArray, List.mem_cons, List.not_mem_nil, or_false] at h
    rcases h with rfl
    all_goals kernel_rfl
  exact hall t (Array.mem_of_getElem? ht)

theorem card : Rows.ImageReadsCardSaid :=
  Claim7.holds_tied_plain_at .later [] _ _ _ _ said (fun _ h => by cases h) (by kernel_rfl) (fun _ h => by cases h) imageReads_row_tie rfl ⟨rfl, rfl⟩ (by kernel_rfl) rfl plain (by kernel_rfl)

end Go.Proofs.YtocjfjikkdpfdaaGreatDoor.imageReads
