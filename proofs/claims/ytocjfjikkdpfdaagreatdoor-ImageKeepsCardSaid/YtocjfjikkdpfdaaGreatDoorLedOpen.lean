/- The argument Ledger opened. Written by genopen.py. -/
import Derived.Test.YtocjfjikkdpfdaaGreatDoorLedAt
import Derived.Test.YtocjfjikkdpfdaaGreatDoorProg
import Derived.Test.YtocjfjikkdpfdaaGreatDoorBaseNest
import Derived.Test.YtocjfjikkdpfdaaGreatDoorBaseStr
set_option linter.unusedSimpArgs false
set_option linter.unusedVariables false
namespace Go.Proofs.YtocjfjikkdpfdaaGreatDoor.LedW
open Go.ChangeShapes Go.WideShapes Go.ChangeAt Go.RowKit Go.Proofs.YtocjfjikkdpfdaaGreatDoor.Bas Go.Proofs.YtocjfjikkdpfdaaGreatDoor.LedM

def I64 (x : Int) : Prop := -9223372036854775808 ≤ x ∧ x ≤ 9223372036854775807
theorem i64_wf {x : Int} (h : (Lit.int .i64 x).wf = true) : I64 x := by
  simp [Lit.wf, IntKind.min, IntKind.max, IntKind.signed, IntKind.bits] at h
  exact h
theorem cells64 : Tryz.prog.cellsOf 3 = 1 := by kernel_rfl
theorem cellsB : Tryz.prog.cellsOf 4 = 1 := by kernel_rfl
theorem cellsS : Tryz.prog.cellsOf 9 = 1 := by kernel_rfl
section
variable {H : Type} {enc : TypeId × Value → H} {W : World}
theorem int_of {m : Nat} {x : Value} {z : DataW H × List MemPlace} (h : DataW.trod enc Tryz.prog W 0 (fun _ => true) true m 3 [x] = some z) : ∃ n, x = .int .i64 n ∧ I64 n := by
  obtain ⟨n, hn, _, wn⟩ := DataW.trod_int Tryz.underlying3 h
  exact ⟨n, by simpa using hn, i64_wf wn⟩
theorem bool_of {m : Nat} {x : Value} {z : DataW H × List MemPlace} (h : DataW.trod enc Tryz.prog W 0 (fun _ => true) true m 4 [x] = some z) : ∃ b, x = .bool b := by
  obtain ⟨b, hb, _⟩ := DataW.trod_bool Tryz.underlying4 h
  exact ⟨b, by simpa using hb⟩
theorem str_of {m : Nat} {x : Value} {z : DataW H × List MemPlace} (h : DataW.trod enc Tryz.prog W 0 (fun _ => true) true m 9 [x] = some z) (hw : ∀ y ∈ z.1.weights Tryz.prog 9, y ≤ reachBytes) : ∃ l : List UInt8, x = .string ⟨l.toArray⟩ ∧ l.length ≤ 140737488351232 := by
  obtain ⟨s, hs, hy, _⟩ := DataW.trod_string Tryz.underlying9 h
  have hx : x = .string s := by simpa using hs
  have hd : z.1 = .lit (.string s.data.toList) := by rw [hy]
  rw [hd] at hw
  refine ⟨s.data.toList, ?_, ?_⟩
  · rw [hx]
  · have := hw s.data.toList.length (by simp [DataW.weights])
    exact Nat.le_trans this (by decide)
theorem cellsOf_cur : Tryz.prog.cellsOf 55 = 2 := by kernel_rfl
set_option maxRecDepth 100000 in
theorem each_cur (m : Nat) (r : List Value) (z : DataW H × List MemPlace) (hl : r.length = Tryz.prog.cellsOf 55) (hf : DataW.trod enc Tryz.prog W 0 (fun _ => true) true m 55 r = some z) (hw : ∀ x ∈ z.1.weights Tryz.prog 55, x ≤ reachBytes) : ∃ x : Int × Int, r = curC x ∧ (fun x => I64 x.1 ∧ I64 x.2) x := by
  obtain ⟨_, ds, hy, _, hg⟩ := fields_at Tryz.underlying55 hf
  rw [cellsOf_cur] at hl
  rw [hy] at hw
  match r, hl with
  | [r0, r1], _ =>
    have _ := hw
    obtain ⟨x0, y0, m0, e0, d0, t0⟩ := hg 0 _ rfl cells64
    obtain ⟨z0, rfl, w0⟩ := int_of t0
    obtain ⟨x1, y1, m1, e1, d1, t1⟩ := hg 1 _ rfl cells64
    obtain ⟨z1, rfl, w1⟩ := int_of t1
    simp at e0 e1
    subst e0 e1
    exact ⟨(z0, z1), rfl, w0, w1⟩
theorem cellsOf_und : Tryz.prog.cellsOf 57 = 4 := by kernel_rfl
set_option maxRecDepth 100000 in
theorem each_und (m : Nat) (r : List Value) (z : DataW H × List MemPlace) (hl : r.length = Tryz.prog.cellsOf 57) (hf : DataW.trod enc Tryz.prog W 0 (fun _ => true) true m 57 r = some z) (hw : ∀ x ∈ z.1.weights Tryz.prog 57, x ≤ reachBytes) : ∃ x : Und, r = undC x ∧ (fun x => x.name.length ≤ 140737488351232 ∧ I64 x.cur ∧ I64 x.price ∧ I64 x.vol) x := by
  obtain ⟨_, ds, hy, _, hg⟩ := fields_at Tryz.underlying57 hf
  rw [cellsOf_und] at hl
  rw [hy] at hw
  match r, hl with
  | [r0, r1, r2, r3], _ =>
    obtain ⟨x0, y0, m0, e0, d0, t0⟩ := hg 0 _ rfl cellsS
    obtain ⟨z0, rfl, w0⟩ := str_of t0 (reach_field (i := 0) Tryz.underlying57 hw rfl d0)
    obtain ⟨x1, y1, m1, e1, d1, t1⟩ := hg 1 _ rfl cells64
    obtain ⟨z1, rfl, w1⟩ := int_of t1
    obtain ⟨x2, y2, m2, e2, d2, t2⟩ := hg 2 _ rfl cells64
    obtain ⟨z2, rfl, w2⟩ := int_of t2
    obtain ⟨x3, y3, m3, e3, d3, t3⟩ := hg 3 _ rfl cells64
    obtain ⟨z3, rfl, w3⟩ := int_of t3
    simp at e0 e1 e2 e3
    subst e0 e1 e2 e3
    exact ⟨⟨z0, z1, z2, z3⟩, rfl, w0, w1, w2, w3⟩
theorem cellsOf_ins : Tryz.prog.cellsOf 60 = 7 := by kernel_rfl
set_option maxRecDepth 100000 in
theorem each_ins (m : Nat) (r : List Value) (z : DataW H × List MemPlace) (hl : r.length = Tryz.prog.cellsOf 60) (hf : DataW.trod enc Tryz.prog W 0 (fun _ => true) true m 60 r = some z) (hw : ∀ x ∈ z.1.weights Tryz.prog 60, x ≤ reachBytes) : ∃ x : Ins, r = insC x ∧ (fun x => I64 x.kind ∧ I64 x.under ∧ I64 x.mult ∧ I64 x.strike ∧ I64 x.expiry ∧ I64 x.mark) x := by
  obtain ⟨_, ds, hy, _, hg⟩ := fields_at Tryz.underlying60 hf
  rw [cellsOf_ins] at hl
  rw [hy] at hw
  match r, hl with
  | [r0, r1, r2, r3, r4, r5, r6], _ =>
    have _ := hw
    obtain ⟨x0, y0, m0, e0, d0, t0⟩ := hg 0 _ rfl cells64
    obtain ⟨z0, rfl, w0⟩ := int_of t0
    obtain ⟨x1, y1, m1, e1, d1, t1⟩ := hg 1 _ rfl cells64
    obtain ⟨z1, rfl, w1⟩ := int_of t1
    obtain ⟨x2, y2, m2, e2, d2, t2⟩ := hg 2 _ rfl cells64
    obtain ⟨z2, rfl, w2⟩ := int_of t2
    obtain ⟨x3, y3, m3, e3, d3, t3⟩ := hg 3 _ rfl cells64
    obtain ⟨z3, rfl, w3⟩ := int_of t3
    obtain ⟨x4, y4, m4, e4, d4, t4⟩ := hg 4 _ rfl cells64
    obtain ⟨z4, rfl, w4⟩ := int_of t4
    obtain ⟨x5, y5, m5, e5, d5, t5⟩ := hg 5 _ rfl cellsB
    obtain ⟨z5, rfl⟩ := bool_of t5
    obtain ⟨x6, y6, m6, e6, d6, t6⟩ := hg 6 _ rfl cells64
    obtain ⟨z6, rfl, w6⟩ := int_of t6
    simp at e0 e1 e2 e3 e4 e5 e6
    subst e0 e1 e2 e3 e4 e5 e6
    exact ⟨⟨z0, z1, z2, z3, z4, z5, z6⟩, rfl, w0, w1, w2, w3, w4, w6⟩
theorem cellsOf_pos : Tryz.prog.cellsOf 63 = 3 := by kernel_rfl
set_option maxRecDepth 100000 in
theorem each_pos (m : Nat) (r : List Value) (z : DataW H × List MemPlace) (hl : r.length = Tryz.prog.cellsOf 63) (hf : DataW.trod enc Tryz.prog W 0 (fun _ => true) true m 63 r = some z) (hw : ∀ x ∈ z.1.weights Tryz.prog 63, x ≤ reachBytes) : ∃ x : Tri, r = triC x ∧ (fun x => I64 x.1 ∧ I64 x.2.1 ∧ I64 x.2.2) x := by
  obtain ⟨_, ds, hy, _, hg⟩ := fields_at Tryz.underlying63 hf
  rw [cellsOf_pos] at hl
  rw [hy] at hw
  match r, hl with
  | [r0, r1, r2], _ =>
    have _ := hw
    obtain ⟨x0, y0, m0, e0, d0, t0⟩ := hg 0 _ rfl cells64
    obtain ⟨z0, rfl, w0⟩ := int_of t0
    obtain ⟨x1, y1, m1, e1, d1, t1⟩ := hg 1 _ rfl cells64
    obtain ⟨z1, rfl, w1⟩ := int_of t1
    obtain ⟨x2, y2, m2, e2, d2, t2⟩ := hg 2 _ rfl cells64
    obtain ⟨z2, rfl, w2⟩ := int_of t2
    simp at e0 e1 e2
    subst e0 e1 e2
    exact ⟨(z0, z1, z2), rfl, w0, w1, w2⟩
theorem cellsOf_loc : Tryz.prog.cellsOf 66 = 3 := by kernel_rfl
set_option maxRecDepth 100000 in
theorem each_loc (m : Nat) (r : List Value) (z : DataW H × List MemPlace) (hl : r.length = Tryz.prog.cellsOf 66) (hf : DataW.trod enc Tryz.prog W 0 (fun _ => true) true m 66 r = some z) (hw : ∀ x ∈ z.1.weights Tryz.prog 66, x ≤ reachBytes) : ∃ x : Tri, r = triC x ∧ (fun x => I64 x.1 ∧ I64 x.2.1 ∧ I64 x.2.2) x := by
  obtain ⟨_, ds, hy, _, hg⟩ := fields_at Tryz.underlying66 hf
  rw [cellsOf_loc] at hl
  rw [hy] at hw
  match r, hl with
  | [r0, r1, r2], _ =>
    have _ := hw
    obtain ⟨x0, y0, m0, e0, d0, t0⟩ := hg 0 _ rfl cells64
    obtain ⟨z0, rfl, w0⟩ := int_of t0
    obtain ⟨x1, y1, m1, e1, d1, t1⟩ := hg 1 _ rfl cells64
    obtain ⟨z1, rfl, w1⟩ := int_of t1
    obtain ⟨x2, y2, m2, e2, d2, t2⟩ := hg 2 _ rfl cells64
    obtain ⟨z2, rfl, w2⟩ := int_of t2
    simp at e0 e1 e2
    subst e0 e1 e2
    exact ⟨(z0, z1, z2), rfl, w0, w1, w2⟩
theorem cellsOf_ord : Tryz.prog.cellsOf 65 = 5 := by kernel_rfl
set_option maxRecDepth 100000 in
theorem each_ord (m : Nat) (r : List Value) (z : DataW H × List MemPlace) (hl : r.length = Tryz.prog.cellsOf 65) (hf : DataW.trod enc Tryz.prog W 0 (fun _ => true) true m 65 r = some z) (hw : ∀ x ∈ z.1.weights Tryz.prog 65, x ≤ reachBytes) : ∃ x : Ord, r = ordC x ∧ (fun x => I64 x.acct ∧ I64 x.id ∧ I64 x.instr ∧ I64 x.qty ∧ I64 x.price) x := by
  obtain ⟨_, ds, hy, _, hg⟩ := fields_at Tryz.underlying65 hf
  rw [cellsOf_ord] at hl
  rw [hy] at hw
  match r, hl with
  | [r0, r1, r2, r3, r4], _ =>
    have _ := hw
    obtain ⟨x0, y0, m0, e0, d0, t0⟩ := hg 0 _ rfl cells64
    obtain ⟨z0, rfl, w0⟩ := int_of t0
    obtain ⟨x1, y1, m1, e1, d1, t1⟩ := hg 1 _ rfl cells64
    obtain ⟨z1, rfl, w1⟩ := int_of t1
    obtain ⟨x2, y2, m2, e2, d2, t2⟩ := hg 2 _ rfl cells64
    obtain ⟨z2, rfl, w2⟩ := int_of t2
    obtain ⟨x3, y3, m3, e3, d3, t3⟩ := hg 3 _ rfl cells64
    obtain ⟨z3, rfl, w3⟩ := int_of t3
    obtain ⟨x4, y4, m4, e4, d4, t4⟩ := hg 4 _ rfl cells64
    obtain ⟨z4, rfl, w4⟩ := int_of t4
    simp at e0 e1 e2 e3 e4
    subst e0 e1 e2 e3 e4
    exact ⟨⟨z0, z1, z2, z3, z4⟩, rfl, w0, w1, w2, w3, w4⟩
theorem each_int (m : Nat) (r : List Value) (z : DataW H × List MemPlace) (hl : r.length = Tryz.prog.cellsOf 3) (hf : DataW.trod enc Tryz.prog W 0 (fun _ => true) true m 3 r = some z) (_ : ∀ x ∈ z.1.weights Tryz.prog 3, x ≤ reachBytes) : ∃ x : Int, r = [.int .i64 x] ∧ I64 x := by
  rw [cells64] at hl
  match r, hl with
  | [r0], _ =>
    obtain ⟨n, rfl, hn⟩ := int_of hf
    exact ⟨n, rfl, hn⟩
theorem flat_i64 (l : List Int) : l.flatMap (fun x => [Value.int .i64 x]) = i64s l := by
  induction l with
  | nil => rfl
  | cons x l ih => rw [List.flatMap_cons, ih]; rfl
/-- an account that can be handed in -/
def AccOk (W : World) (x : Value × Acc) : Prop := CashAt W x ∧ I64 x.2.parent ∧ I64 x.2.last ∧ (∀ z ∈ x.2.cash, I64 z) ∧ x.2.cash.length * 8 ≤ 140737488351232
theorem cellsOf_acc : Tryz.prog.cellsOf 46 = 4 := by kernel_rfl
theorem cellsL : Tryz.prog.cellsOf 28 = 1 := by kernel_rfl
theorem bytes64 : Tryz.prog.bytesOf 3 = 8 := by kernel_rfl
set_option maxRecDepth 100000 in
theorem each_acc (m : Nat) (r : List Value) (z : DataW H × List MemPlace) (hl : r.length = Tryz.prog.cellsOf 46) (hf : DataW.trod enc Tryz.prog W 0 (fun _ => true) true m 46 r = some z) (hw : ∀ x ∈ z.1.weights Tryz.prog 46, x ≤ reachBytes) : ∃ x : Value × Acc, r = accC x ∧ AccOk W x := by
  obtain ⟨_, ds, hy, _, hg⟩ := fields_at Tryz.underlying46 hf
  rw [cellsOf_acc] at hl
  rw [hy] at hw
  match r, hl with
  | [r0, r1, r2, r3], _ =>
    obtain ⟨x0, y0, m0, e0, d0, t0⟩ := hg 0 _ rfl cells64
    obtain ⟨z0, rfl, w0⟩ := int_of t0
    obtain ⟨x1, y1, m1, e1, d1, t1⟩ := hg 1 _ rfl cellsL
    obtain ⟨a, l, cap, h1, hat, hc, _, hok, hb⟩ := open_recs Tryz.underlying28 t1 (reach_field (i := 1) Tryz.underlying46 hw rfl d1) each_int
    obtain rfl : x1 = .slice a l.length cap := by simpa using h1
    rw [flat_i64] at hat
    rw [bytes64] at hb
    obtain ⟨x2, y2, m2, e2, d2, t2⟩ := hg 2 _ rfl cellsB
    obtain ⟨z2, rfl⟩ := bool_of t2
    obtain ⟨x3, y3, m3, e3, d3, t3⟩ := hg 3 _ rfl cells64
    obtain ⟨z3, rfl, w3⟩ := int_of t3
    simp at e0 e1 e2 e3
    subst e0 e1 e2 e3
    exact ⟨(.slice a l.length cap, ⟨z0, l, z2, z3⟩), rfl, ⟨a, cap, rfl, hc, hat⟩, w0, w3, hok, by show l.length * 8 ≤ _; omega⟩
/-- a ledger that can be handed in -/
structure LedOk (W : World) (l : Led) (vs : List (Value × Acc)) (s : Lists) : Prop where
  day : I64 l.day
  curs : ∀ x ∈ l.curs, I64 x.1 ∧ I64 x.2
  unders : ∀ x ∈ l.unders, x.name.length ≤ 140737488351232 ∧ I64 x.cur ∧ I64 x.price ∧ I64 x.vol
  instrs : ∀ x ∈ l.instrs, I64 x.kind ∧ I64 x.under ∧ I64 x.mult ∧ I64 x.strike ∧ I64 x.expiry ∧ I64 x.mark
  accts : ∀ x ∈ vs, AccOk W x
  poss : ∀ x ∈ l.poss, I64 x.1 ∧ I64 x.2.1 ∧ I64 x.2.2
  orders : ∀ x ∈ l.orders, I64 x.acct ∧ I64 x.id ∧ I64 x.instr ∧ I64 x.qty ∧ I64 x.price
  avail : ∀ x ∈ l.avail, I64 x
  locs : ∀ x ∈ l.locs, I64 x.1 ∧ I64 x.2.1 ∧ I64 x.2.2
  len : l.curs.length ≤ s.c1 ∧ l.unders.length ≤ s.c2 ∧ l.instrs.length ≤ s.c3 ∧ l.accts.length ≤ s.c4 ∧ l.poss.length ≤ s.c5 ∧ l.orders.length ≤ s.c6 ∧ l.avail.length ≤ s.c7 ∧ l.locs.length ≤ s.c8
  cap : s.c1 ≤ maxLen ∧ s.c2 ≤ maxLen ∧ s.c3 ≤ maxLen ∧ s.c4 ≤ maxLen ∧ s.c5 ≤ maxLen ∧ s.c6 ≤ maxLen ∧ s.c7 ≤ maxLen ∧ s.c8 ≤ maxLen
theorem cellsL_curs : Tryz.prog.cellsOf 22 = 1 := by kernel_rfl
theorem cellsL_unders : Tryz.prog.cellsOf 23 = 1 := by kernel_rfl
theorem cellsL_instrs : Tryz.prog.cellsOf 24 = 1 := by kernel_rfl
theorem cellsL_accts : Tryz.prog.cellsOf 25 = 1 := by kernel_rfl
theorem cellsL_poss : Tryz.prog.cellsOf 26 = 1 := by kernel_rfl
theorem cellsL_orders : Tryz.prog.cellsOf 27 = 1 := by kernel_rfl
theorem cellsL_locs : Tryz.prog.cellsOf 29 = 1 := by kernel_rfl
theorem cellsOf_led : Tryz.prog.cellsOf 31 = 9 := by kernel_rfl
set_option maxRecDepth 100000 in
set_option maxHeartbeats 1000000 in
theorem open_ledger {base : Nat} {v : Value} {d : DataW H} {p : List MemPlace} (hv : Value.okWide Tryz.prog W .any base 31 v) (h : DataW.Trod enc Tryz.prog W 0 (fun _ => true) true 31 v d p) (hw : ∀ x ∈ d.weights Tryz.prog 31, x ≤ reachBytes) :
    ∃ (s : Lists) (l : Led) (vs : List (Value × Acc)), v = ledV s l ∧ LedAt W s l vs ∧ LedOk W l vs s := by
  obtain ⟨L, ds, rfl, hL, hy, _, hg⟩ := open_fields Tryz.underlying31 hv h
  rw [cellsOf_led] at hL
  rw [hy] at hw
  match L, hL with
  | [r0, r1, r2, r3, r4, r5, r6, r7, r8], _ =>
    obtain ⟨x0, y0, m0, e0, d0, t0⟩ := hg 0 _ rfl cells64
    obtain ⟨z0, rfl, w0⟩ := int_of t0
    obtain ⟨x1, y1, m1, e1, d1, t1⟩ := hg 1 _ rfl cellsL_curs
    obtain ⟨a1, l1, c1, f1, at1, n1, p1, k1, _⟩ := open_recs Tryz.underlying22 t1 (reach_field (i := 1) Tryz.underlying31 hw rfl d1) each_cur
    obtain rfl : x1 = .slice a1 l1.length c1 := by simpa using f1
    obtain ⟨x2, y2, m2, e2, d2, t2⟩ := hg 2 _ rfl cellsL_unders
    obtain ⟨a2, l2, c2, f2, at2, n2, p2, k2, _⟩ := open_recs Tryz.underlying23 t2 (reach_field (i := 2) Tryz.underlying31 hw rfl d2) each_und
    obtain rfl : x2 = .slice a2 l2.length c2 := by simpa using f2
    obtain ⟨x3, y3, m3, e3, d3, t3⟩ := hg 3 _ rfl cellsL_instrs
    obtain ⟨a3, l3, c3, f3, at3, n3, p3, k3, _⟩ := open_recs Tryz.underlying24 t3 (reach_field (i := 3) Tryz.underlying31 hw rfl d3) each_ins
    obtain rfl : x3 = .slice a3 l3.length c3 := by simpa using f3
    obtain ⟨x4, y4, m4, e4, d4, t4⟩ := hg 4 _ rfl cellsL_accts
    obtain ⟨a4, l4, c4, f4, at4, n4, p4, k4, _⟩ := open_recs Tryz.underlying25 t4 (reach_field (i := 4) Tryz.underlying31 hw rfl d4) each_acc
    obtain rfl : x4 = .slice a4 l4.length c4 := by simpa using f4
    obtain ⟨x5, y5, m5, e5, d5, t5⟩ := hg 5 _ rfl cellsL_poss
    obtain ⟨a5, l5, c5, f5, at5, n5, p5, k5, _⟩ := open_recs Tryz.underlying26 t5 (reach_field (i := 5) Tryz.underlying31 hw rfl d5) each_pos
    obtain rfl : x5 = .slice a5 l5.length c5 := by simpa using f5
    obtain ⟨x6, y6, m6, e6, d6, t6⟩ := hg 6 _ rfl cellsL_orders
    obtain ⟨a6, l6, c6, f6, at6, n6, p6, k6, _⟩ := open_recs Tryz.underlying27 t6 (reach_field (i := 6) Tryz.underlying31 hw rfl d6) each_ord
    obtain rfl : x6 = .slice a6 l6.length c6 := by simpa using f6
    obtain ⟨x7, y7, m7, e7, d7, t7⟩ := hg 7 _ rfl cellsL
    obtain ⟨a7, l7, c7, f7, at7, n7, p7, k7, _⟩ := open_recs Tryz.underlying28 t7 (reach_field (i := 7) Tryz.underlying31 hw rfl d7) each_int
    obtain rfl : x7 = .slice a7 l7.length c7 := by simpa using f7
    obtain ⟨x8, y8, m8, e8, d8, t8⟩ := hg 8 _ rfl cellsL_locs
    obtain ⟨a8, l8, c8, f8, at8, n8, p8, k8, _⟩ := open_recs Tryz.underlying29 t8 (reach_field (i := 8) Tryz.underlying31 hw rfl d8) each_loc
    obtain rfl : x8 = .slice a8 l8.length c8 := by simpa using f8
    rw [flat_i64] at at7
    simp at e0 e1 e2 e3 e4 e5 e6 e7 e8
    subst e0 e1 e2 e3 e4 e5 e6 e7 e8
    have h4 : (l4.map (·.2)).length = l4.length := List.length_map _
    refine ⟨⟨a1, c1, a2, c2, a3, c3, a4, c4, a5, c5, a6, c6, a7, c7, a8, c8⟩, ⟨z0, l1, l2, l3, l4.map (·.2), l5, l6, l7, l8⟩, l4, ?_, ⟨at1, at2, at3, at4, rfl, fun x hx => (k4 x hx).1, at5, at6, at7, at8, ⟨n1, n2, n3, by rw [h4]; exact n4, n5, n6, n7, n8⟩⟩, ⟨w0, k1, k2, k3, k4, k5, k6, k7, k8, ⟨n1, n2, n3, by rw [h4]; exact n4, n5, n6, n7, n8⟩, ⟨p1, p2, p3, p4, p5, p6, p7, p8⟩⟩⟩
    unfold ledV
    rw [h4]
end
end Go.Proofs.YtocjfjikkdpfdaaGreatDoor.LedW
