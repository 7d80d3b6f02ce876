/- Same, and what the document says of a ledger; wakes; what the laws are handed. -/
import Derived.Test.YtocjfjikkdpfdaaDoorBaseStage
import Derived.Test.YtocjfjikkdpfdaaDoorLedLists
import Derived.Test.YtocjfjikkdpfdaaDoorLedGoodMath
import Derived.Test.YtocjfjikkdpfdaaDoorLedPush
import Derived.Test.YtocjfjikkdpfdaaDoorLedA
import Derived.Test.YtocjfjikkdpfdaaDoorFixpDoc
import Derived.Test.YtocjfjikkdpfdaaDoorLedGoodAll
import Derived.Test.YtocjfjikkdpfdaaDoorBaseLaid
set_option linter.unusedSimpArgs false
set_option linter.unusedVariables false
namespace Go.Proofs.YtocjfjikkdpfdaaDoor.Bas
open Go Go.RowKit
section
variable {P : Program} {ops : Array Oper} {S : World → Prop} {Q : Exit → Act → World → Prop} {t : Nat}
/-- number i or number j may come up -/
theorem stage_both {i j k : Nat} {o o' : Oper} {s : Array Bool} {a : Act} {w : World} (ho : ops[i]? = some o) (ho' : ops[j]? = some o') (hr : Region.ready .any ops s = [i, j]) (hg : Region.wanted o (yielded ops a.tmps) = true) (hg' : Region.wanted o' (yielded ops a.tmps) = true)
    (h : ∀ K : Act → World → Prop, Hid (∀ a w, (i < t → S w) → Stage P ops Q S t k (s.setIfInBounds i true) a w → K a w) → o.wp P a w K Q)
    (h' : ∀ K : Act → World → Prop, Hid (∀ a w, (j < t → S w) → Stage P ops Q S t k (s.setIfInBounds j true) a w → K a w) → o'.wp P a w K Q) : Stage P ops Q S t (k + 1) s a w := by
  refine ⟨fun h0 => (by rw [hr] at h0; cases h0), fun n hn => ?_⟩
  rw [hr] at hn
  have hn' : n = i ∨ n = j := by simpa using hn
  rcases hn' with rfl | rfl
  · unfold wpOp
    simp only [ho]
    rw [if_pos hg]
    exact .inl (h _ fun a w h1 h2 => ⟨h1, h2.out⟩)
  · unfold wpOp
    simp only [ho']
    rw [if_pos hg']
    exact .inl (h' _ fun a w h1 h2 => ⟨h1, h2.out⟩)
end
end Go.Proofs.YtocjfjikkdpfdaaDoor.Bas
namespace Go.Proofs.YtocjfjikkdpfdaaDoor.LedW
open Go.RowKit Go.Proofs.YtocjfjikkdpfdaaDoor.Bas Go.Proofs.YtocjfjikkdpfdaaDoor.LedM

theorem acc_eq (x0 y0 : Int) (x1 y1 : List Int) (x2 y2 : Bool) (x3 y3 : Int) : decide ((⟨x0, x1, x2, x3⟩ : Acc) = ⟨y0, y1, y2, y3⟩) = (decide (x0 = y0) && decide (x2 = y2) && decide (x3 = y3) && decide (x1 = y1)) := by
  rw [Bool.eq_iff_iff]
  simp only [Bool.and_eq_true, decide_eq_true_eq, Acc.mk.injEq]
  constructor
  · rintro ⟨h0, h1, h2, h3⟩; exact ⟨⟨⟨h0, h2⟩, h3⟩, h1⟩
  · rintro ⟨⟨⟨h0, h2⟩, h3⟩, h1⟩; exact ⟨h0, h1, h2, h3⟩
theorem bel_of {w w' : World} (h : ∃ n, w' = w.drewN n) : Below w.heap.size w w' := by
  obtain ⟨n, rfl⟩ := h
  exact below_drewN (Below.refl _ _) n

set_option maxHeartbeats 1000000 in
theorem same1_calls (x y : Value × Acc) (w : World) (hx : CashAt w x) (hy : CashAt w y) (bx : x.2.cash.length ≤ 9223372036854775807) (by_ : y.2.cash.length ≤ 9223372036854775807) :
    Calls Tryd.prog 33 #[.agg #[.int .i64 x.2.parent, x.1, .bool x.2.flag, .int .i64 x.2.last], .agg #[.int .i64 y.2.parent, y.1, .bool y.2.flag, .int .i64 y.2.last]] w fun e w' => e = .returned (.bool (decide (x.2 = y.2))) ∧ Below w.heap.size w w' := by
  obtain ⟨xv, x0, x1, x2, x3⟩ := x
  obtain ⟨yv, y0, y1, y2, y3⟩ := y
  obtain ⟨ca, cc, hxv, _, hca⟩ := hx
  obtain ⟨cb, cd, hyv, _, hcb⟩ := hy
  simp only at hxv hyv hca hcb bx by_
  subst hxv hyv
  show Calls Tryd.prog 33 #[.agg #[.int .i64 x0, .slice ca x1.length cc, .bool x2, .int .i64 x3], .agg #[.int .i64 y0, .slice cb y1.length cd, .bool y2, .int .i64 y3]] w fun e w' => e = .returned (.bool (decide ((⟨x0, x1, x2, x3⟩ : Acc) = ⟨y0, y1, y2, y3⟩))) ∧ Below w.heap.size w w'
  have HE := Lib.hid (acc_eq x0 y0 x1 y1 x2 y2 x3 y3)
  generalize decide ((⟨x0, x1, x2, x3⟩ : Acc) = ⟨y0, y1, y2, y3⟩) = b at HE ⊢
  have X0 := (Box.new w 63 #[.int .i64 x0, .slice ca x1.length cc, .bool x2, .int .i64 x3]).alloc (.cells #[.int .i64 y0, .slice cb y1.length cd, .bool y2, .int .i64 y3] 63)
  have X1 := Box.new (w.alloc (.cells #[.int .i64 x0, .slice ca x1.length cc, .bool x2, .int .i64 x3] 63)) 63 #[.int .i64 y0, .slice cb y1.length cd, .bool y2, .int .i64 y3]
  rw [World.size_alloc] at X1
  have B := ((Below.refl w.heap.size w).alloc (Nat.le_refl _) (.cells #[.int .i64 x0, .slice ca x1.length cc, .bool x2, .int .i64 x3] 63)).alloc (by simp) (.cells #[.int .i64 y0, .slice cb y1.length cd, .bool y2, .int .i64 y3] 63)
  have HA := Lib.hid (hca.keep B)
  have HB := Lib.hid (hcb.keep B)
  clear hca hcb
  go_enter Tryd.func33, Tryd.ntmps33
  go_upto_region 1 with fail
  change Code.wp _ _ _ _ ((w.alloc (.cells #[.int .i64 x0, .slice ca x1.length cc, .bool x2, .int .i64 x3] 63)).alloc (.cells #[.int .i64 y0, .slice cb y1.length cd, .bool y2, .int .i64 y3] 63))
  generalize (w.alloc (.cells #[.int .i64 x0, .slice ca x1.length cc, .bool x2, .int .i64 x3] 63)).alloc (.cells #[.int .i64 y0, .slice cb y1.length cd, .bool y2, .int .i64 y3] 63) = w0 at *
  have c0 : w0.cell? ⟨w.heap.size, 0, none⟩ = some (.int .i64 x0) := X0.cell 0
  have c1 : w0.cell? ⟨w.heap.size, 1, none⟩ = some (.slice ca x1.length cc) := X0.cell 1
  have c2 : w0.cell? ⟨w.heap.size, 2, none⟩ = some (.bool x2) := X0.cell 2
  have c3 : w0.cell? ⟨w.heap.size, 3, none⟩ = some (.int .i64 x3) := X0.cell 3
  have d0 : w0.cell? ⟨w.heap.size + 1, 0, none⟩ = some (.int .i64 y0) := X1.cell 0
  have d1 : w0.cell? ⟨w.heap.size + 1, 1, none⟩ = some (.slice cb y1.length cd) := X1.cell 1
  have d2 : w0.cell? ⟨w.heap.size + 1, 2, none⟩ = some (.bool y2) := X1.cell 2
  have d3 : w0.cell? ⟨w.heap.size + 1, 3, none⟩ = some (.int .i64 y3) := X1.cell 3
  clear X0 X1
  by_cases h0 : x0 = y0
  rotate_left
  · have hb : (x0 == y0) = false := by simpa using h0
    have HX : Hid (b = false) := by unfold Hid; rw [HE.out, decide_eq_false h0]; simp
    clear h0 HE
    go_wp2_with fail
    go_ret
    exact ⟨ret_bool HX.out.symm, B⟩
  subst h0
  by_cases h2 : x2 = y2
  rotate_left
  · have hb : (x2 == y2) = false := by simpa using h2
    have HX : Hid (b = false) := by unfold Hid; rw [HE.out, decide_eq_false h2]; simp
    clear h2 HE
    go_wp2_with fail
    go_ret
    exact ⟨ret_bool HX.out.symm, B⟩
  subst h2
  by_cases h3 : x3 = y3
  rotate_left
  · have hb : (x3 == y3) = false := by simpa using h3
    have HX : Hid (b = false) := by unfold Hid; rw [HE.out, decide_eq_false h3]; simp
    clear h3 HE
    go_wp2_with fail
    go_ret
    exact ⟨ret_bool HX.out.symm, B⟩
  subst h3
  have HX : Hid (b = decide (x1 = y1)) := by unfold Hid; rw [HE.out]; simp
  clear HE
  have C := Lib.hid (equal_int ca cb cc cd x1 y1 w0 bx by_ HA.out HB.out)
  clear HA HB
  generalize decide (x1 = y1) = b1 at C HX
  go_wp2_with (go_at_call 30; refine C.out.mono ?_; rintro e w2 ⟨rfl, n, rfl⟩)
  go_ret
  exact ⟨ret_bool HX.out.symm, below_drewN B n⟩

set_option maxHeartbeats 2000000 in
theorem equalF_calls (a b : Option Addr) (ca0 cb0 : Nat) (xs ys : List (Value × Acc)) (w : World) (hbig : xs.length ≤ 9223372036854775807) (hbig2 : ys.length ≤ 9223372036854775807) (ha : At w a (xs.flatMap accC)) (hb : At w b (ys.flatMap accC))
    (hx : ∀ x ∈ xs, CashAt w x ∧ x.2.cash.length ≤ 9223372036854775807) (hy : ∀ x ∈ ys, CashAt w x ∧ x.2.cash.length ≤ 9223372036854775807) :
    Calls Tryd.prog 32 #[.slice a xs.length ca0, .slice b ys.length cb0, .func (.func 33) #[] #[]] w fun e w' => e = .returned (.bool (decide (xs.map (·.2) = ys.map (·.2)))) ∧ Below w.heap.size w w' := by
  have HA := Lib.hid ha
  have HB := Lib.hid hb
  have _ := hbig2
  have HQX := Lib.hid hx
  have HQY := Lib.hid hy
  clear ha hb hx hy
  go_enter Tryd.func32, Tryd.ntmps32
  by_cases hl : xs.length = ys.length
  · have hlb : ((xs.length : Int) != (ys.length : Int)) = false := by simp [hl]
    have HL := Lib.hid hl
    clear hl
    go_wp2_with fail
    go_loopw [17] (fun i wr => ∃ k : Nat, k ≤ xs.length ∧ i = .int .i64 k ∧ Below w.heap.size w wr ∧ Hid ((xs.map (·.2)).take k = (ys.map (·.2)).take k)) (fun i _ => xs.length - (intOf i).toNat)
    case atStart => exact ⟨0, by omega, rfl, Below.refl _ _, by simp [Hid]⟩
    case round =>
      obtain ⟨k, hk, rfl, LW, H⟩ := hrel
      by_cases hlt : k < xs.length
      · have hlt2 : k < ys.length := by have := HL.out; omega
        obtain ⟨b1, off1, rfl, C1⟩ := rec_at len_acc (by decide) (HA.out.keep LW) hlt
        have hm := take_eq_succ (xs.map (·.2)) (ys.map (·.2)) k (by simpa using hlt) (by simpa using hlt2)
        simp only [List.getElem_map] at hm
        have hcx := HQX.out _ (List.getElem_mem hlt)
        have hcy := HQY.out _ (List.getElem_mem hlt2)
        have HXK : Hid (xs.map (·.2) = ys.map (·.2) → xs[k].2 = ys[k].2) := fun h => by
          have := congrArg (fun l => l[k]?) h
          simpa [hlt, hlt2] using this
        generalize xs[k] = x at *
        generalize hyk : ys[k] = y at *
        have HYK := Lib.hid hyk
        clear hyk
        have CC := Lib.hid (fun W (h : Below w.heap.size w W) => same1_calls x y W (hcx.1.keep h) (hcy.1.keep h) hcx.2 hcy.2)
        obtain ⟨xv, x0, x1, x2, x3⟩ := x
        obtain ⟨yv, y0, y1, y2, y3⟩ := y
        obtain ⟨ca, cc, hxv, _, _⟩ := hcx.1
        obtain ⟨cb, cd, hyv, _, _⟩ := hcy.1
        simp only at hxv hyv CC HXK hm
        subst hxv hyv
        clear hcx hcy
        have c0 := C1 0 _ rfl
        have c1 := C1 1 _ rfl
        have c2 := C1 2 _ rfl
        have c3 := C1 3 _ rfl
        clear C1
        simp only [← Nat.add_assoc, Nat.add_zero] at c0 c1 c2 c3
        obtain ⟨b2, off2, rfl, C2⟩ := rec_at len_acc (by decide) (HB.out.keep (LW.alloc LW.size (.cells #[.int .i64 x0, .slice ca x1.length cc, .bool x2, .int .i64 x3] 63))) hlt2
        rw [HYK.out] at C2
        clear HYK
        have d0 := C2 0 _ rfl
        have d1 := C2 1 _ rfl
        have d2 := C2 2 _ rfl
        have d3 := C2 3 _ rfl
        clear C2
        simp only [← Nat.add_assoc, Nat.add_zero] at d0 d1 d2 d3
        have X0 := (Box.new wr 63 #[.int .i64 x0, .slice ca x1.length cc, .bool x2, .int .i64 x3]).alloc (.cells #[.int .i64 y0, .slice cb y1.length cd, .bool y2, .int .i64 y3] 63)
        have X1 := Box.new (wr.alloc (.cells #[.int .i64 x0, .slice ca x1.length cc, .bool x2, .int .i64 x3] 63)) 63 #[.int .i64 y0, .slice cb y1.length cd, .bool y2, .int .i64 y3]
        rw [World.size_alloc] at X1
        have L2 := (LW.alloc LW.size (.cells #[.int .i64 x0, .slice ca x1.length cc, .bool x2, .int .i64 x3] 63)).alloc (by simp; have := LW.size; omega) (.cells #[.int .i64 y0, .slice cb y1.length cd, .bool y2, .int .i64 y3] 63)
        have hX := Lib.hid (And.intro X0 (And.intro X1 L2))
        have HQ := Lib.hid H.out
        have HM := Lib.hid hm
        clear X0 X1 L2 H hm
        go_upto_region 6 with fail
        clear c0 c1 c2 c3
        generalize hw3 : wr.alloc (.cells #[.int .i64 x0, .slice ca x1.length cc, .bool x2, .int .i64 x3] 63) = w3 at *
        go_upto_region 7 with fail
        subst hw3
        change Code.wp _ _ _ _ ((wr.alloc (.cells #[.int .i64 x0, .slice ca x1.length cc, .bool x2, .int .i64 x3] 63)).alloc (.cells #[.int .i64 y0, .slice cb y1.length cd, .bool y2, .int .i64 y3] 63))
        clear d0 d1 d2 d3
        generalize (wr.alloc (.cells #[.int .i64 x0, .slice ca x1.length cc, .bool x2, .int .i64 x3] 63)).alloc (.cells #[.int .i64 y0, .slice cb y1.length cd, .bool y2, .int .i64 y3] 63) = w4 at *
        have c0 : w4.cell? ⟨wr.heap.size, 0, none⟩ = some (.int .i64 x0) := hX.out.1.cell 0
        have c1 : w4.cell? ⟨wr.heap.size, 1, none⟩ = some (.slice ca x1.length cc) := hX.out.1.cell 1
        have c2 : w4.cell? ⟨wr.heap.size, 2, none⟩ = some (.bool x2) := hX.out.1.cell 2
        have c3 : w4.cell? ⟨wr.heap.size, 3, none⟩ = some (.int .i64 x3) := hX.out.1.cell 3
        have d0 : w4.cell? ⟨wr.heap.size + 1, 0, none⟩ = some (.int .i64 y0) := hX.out.2.1.cell 0
        have d1 : w4.cell? ⟨wr.heap.size + 1, 1, none⟩ = some (.slice cb y1.length cd) := hX.out.2.1.cell 1
        have d2 : w4.cell? ⟨wr.heap.size + 1, 2, none⟩ = some (.bool y2) := hX.out.2.1.cell 2
        have d3 : w4.cell? ⟨wr.heap.size + 1, 3, none⟩ = some (.int .i64 y3) := hX.out.2.1.cell 3
        by_cases he : (⟨x0, x1, x2, x3⟩ : Acc) = ⟨y0, y1, y2, y3⟩
        · have HI : Hid ((xs.map (·.2)).take (k + 1) = (ys.map (·.2)).take (k + 1)) := HM.out.2 ⟨HQ.out, he⟩
          have C := Lib.hid (CC.out w4 hX.out.2.2)
          rw [decide_eq_true he] at C
          clear CC HM HQ HXK he
          go_wp2_with (go_at_call 33; refine C.out.mono ?_; rintro e w5 ⟨rfl, b5⟩)
          go_roundw
          case rel => exact ⟨k + 1, by omega, by go_num, hX.out.2.2.trans (b5.mono hX.out.2.2.size), HI⟩
          case measure => simp [intOf]; omega
        · have HI : Hid (¬ (xs.map (·.2) = ys.map (·.2))) := fun h => he (HXK.out h)
          have C := Lib.hid (CC.out w4 hX.out.2.2)
          rw [decide_eq_false he] at C
          clear CC HM HQ HXK he
          go_wp2_with (go_at_call 33; refine C.out.mono ?_; rintro e w5 ⟨rfl, b5⟩)
          go_ret
          exact ⟨ret_bool (decide_eq_false HI.out).symm, hX.out.2.2.trans (b5.mono hX.out.2.2.size)⟩
      · have hkk : k = xs.length := by omega
        subst hkk
        have HI : Hid (xs.map (·.2) = ys.map (·.2)) := by
          have := H.out
          rwa [List.take_of_length_le (by simp), List.take_of_length_le (by simp [HL.out])] at this
        clear H
        go_wp2_with fail
        go_ret
        exact ⟨ret_bool (decide_eq_true HI.out).symm, LW⟩
  · have hne : ¬ (xs.map (·.2) = ys.map (·.2)) := fun h => hl (by simpa using congrArg List.length h)
    have hlb : ((xs.length : Int) != (ys.length : Int)) = true := by simp; omega
    have HI := Lib.hid hne
    clear hl hne
    go_wp2_with fail
    go_ret
    exact ⟨ret_bool (decide_eq_false HI.out).symm, Below.refl _ _⟩

theorem cash_len {W : World} {s : Lists} {l : Led} {vs : List (Value × Acc)} (hf : LedFit l) (h : LedAt W s l vs) : ∀ x ∈ vs, CashAt W x ∧ x.2.cash.length ≤ 9223372036854775807 := fun x hx => by
  refine ⟨h.cash x hx, ?_⟩
  have hm : x.2 ∈ l.accts := by
    rw [← h.each]
    exact List.mem_map_of_mem hx
  have := (hf.accts _ hm).2.2.2
  omega
/-- two ledgers' boxes -/
structure TwoLed (w W : World) (s : Lists) (l : Led) (vs : List (Value × Acc)) (r : Lists) (m : Led) (us : List (Value × Acc)) : Prop where
  one : LedH w W w.heap.size s l vs
  two : LedH w W (w.heap.size + 1) r m us
theorem TwoLed.keep {w A B : World} {s : Lists} {l : Led} {vs : List (Value × Acc)} {r : Lists} {m : Led} {us : List (Value × Acc)} (h : TwoLed w A s l vs r m us) (b : Below A.heap.size A B) : TwoLed w B s l vs r m us := ⟨h.one.keep b, h.two.keep b⟩
theorem twoLed_new (w : World) (s : Lists) (l : Led) (vs : List (Value × Acc)) (r : Lists) (m : Led) (us : List (Value × Acc)) (h1 : LedAt w s l vs) (h2 : LedAt w r m us) : TwoLed w ((w.alloc (.cells #[.int .i64 l.day, .slice s.a1 l.curs.length s.c1, .slice s.a2 l.unders.length s.c2, .slice s.a3 l.instrs.length s.c3, .slice s.a4 l.accts.length s.c4, .slice s.a5 l.poss.length s.c5, .slice s.a6 l.orders.length s.c6, .slice s.a7 l.avail.length s.c7, .slice s.a8 l.locs.length s.c8] 31)).alloc (.cells #[.int .i64 m.day, .slice r.a1 m.curs.length r.c1, .slice r.a2 m.unders.length r.c2, .slice r.a3 m.instrs.length r.c3, .slice r.a4 m.accts.length r.c4, .slice r.a5 m.poss.length r.c5, .slice r.a6 m.orders.length r.c6, .slice r.a7 m.avail.length r.c7, .slice r.a8 m.locs.length r.c8] 31)) s l vs r m us := by
  have X := ledH_new w s l vs h1
  have b : Below w.heap.size w (w.alloc (.cells #[.int .i64 l.day, .slice s.a1 l.curs.length s.c1, .slice s.a2 l.unders.length s.c2, .slice s.a3 l.instrs.length s.c3, .slice s.a4 l.accts.length s.c4, .slice s.a5 l.poss.length s.c5, .slice s.a6 l.orders.length s.c6, .slice s.a7 l.avail.length s.c7, .slice s.a8 l.locs.length s.c8] 31)) := X.low
  have Y := ledH_new (w.alloc (.cells #[.int .i64 l.day, .slice s.a1 l.curs.length s.c1, .slice s.a2 l.unders.length s.c2, .slice s.a3 l.instrs.length s.c3, .slice s.a4 l.accts.length s.c4, .slice s.a5 l.poss.length s.c5, .slice s.a6 l.orders.length s.c6, .slice s.a7 l.avail.length s.c7, .slice s.a8 l.locs.length s.c8] 31)) r m us (h2.keep b)
  rw [World.size_alloc] at Y
  exact ⟨X.alloc _, Y.box, Y.at_, b.trans (Y.low.mono (by rw [World.size_alloc]; omega))⟩
theorem led_eq (l m : Led) : decide (l = m) = (decide (l.day = m.day) && decide (l.curs = m.curs) && decide (l.unders = m.unders) && decide (l.instrs = m.instrs) && decide (l.poss = m.poss) && decide (l.orders = m.orders) && decide (l.avail = m.avail) && decide (l.locs = m.locs) && decide (l.accts = m.accts)) := by
  rw [Bool.eq_iff_iff]
  simp only [Bool.and_eq_true, decide_eq_true_eq]
  constructor
  · rintro rfl; simp
  · rintro ⟨⟨⟨⟨⟨⟨⟨⟨h1, h2⟩, h3⟩, h4⟩, h5⟩, h6⟩, h7⟩, h8⟩, h9⟩
    cases l; cases m
    simp only at h1 h2 h3 h4 h5 h6 h7 h8 h9
    subst h1 h2 h3 h4 h5 h6 h7 h8 h9
    rfl
set_option maxHeartbeats 4000000 in
set_option maxRecDepth 100000 in
theorem same_calls (s : Lists) (l : Led) (vs : List (Value × Acc)) (r : Lists) (m : Led) (us : List (Value × Acc)) (w : World) (h1 : LedAt w s l vs) (h2 : LedAt w r m us) (f1 : LedFit l) (f2 : LedFit m) :
    Calls Tryd.prog 14 #[ledV s l, ledV r m] w fun e w' => e = .returned (.bool (decide (l = m))) ∧ Below w.heap.size w w' := by
  have X := twoLed_new w s l vs r m us h1 h2
  unfold ledV
  obtain ⟨n1, n2, n3, n4, n5, n6, n7, n8⟩ := f1.len
  obtain ⟨m1, m2, m3, m4, m5, m6, m7, m8⟩ := f2.len
  have HL1 := Lib.hid (LedAt.len h1)
  have HL2 := Lib.hid (LedAt.len h2)
  have K1 := Lib.hid (fun W (X : TwoLed w W s l vs r m us) => equal_cur s.a1 r.a1 s.c1 r.c1 l.curs m.curs W (by omega) (by omega) X.one.at_.curs X.two.at_.curs)
  have K2 := Lib.hid (fun W (X : TwoLed w W s l vs r m us) => equal_und s.a2 r.a2 s.c2 r.c2 l.unders m.unders W (by omega) (by omega) X.one.at_.unders X.two.at_.unders)
  have K3 := Lib.hid (fun W (X : TwoLed w W s l vs r m us) => equal_ins s.a3 r.a3 s.c3 r.c3 l.instrs m.instrs W (by omega) (by omega) X.one.at_.instrs X.two.at_.instrs)
  have K5 := Lib.hid (fun W (X : TwoLed w W s l vs r m us) => equal_pos s.a5 r.a5 s.c5 r.c5 l.poss m.poss W (by omega) (by omega) X.one.at_.poss X.two.at_.poss)
  have K6 := Lib.hid (fun W (X : TwoLed w W s l vs r m us) => equal_ord s.a6 r.a6 s.c6 r.c6 l.orders m.orders W (by omega) (by omega) X.one.at_.orders X.two.at_.orders)
  have K7 := Lib.hid (fun W (X : TwoLed w W s l vs r m us) => equal_int s.a7 r.a7 s.c7 r.c7 l.avail m.avail W (by omega) (by omega) X.one.at_.avail X.two.at_.avail)
  have K8 := Lib.hid (fun W (X : TwoLed w W s l vs r m us) => equal_loc s.a8 r.a8 s.c8 r.c8 l.locs m.locs W (by omega) (by omega) X.one.at_.locs X.two.at_.locs)
  have K4 := Lib.hid (fun W (X : TwoLed w W s l vs r m us) => equalF_calls s.a4 r.a4 s.c4 r.c4 vs us W (by have := HL1.out; omega) (by have := HL2.out; omega) X.one.at_.accts X.two.at_.accts (cash_len f1 X.one.at_) (cash_len f2 X.two.at_))
  rw [HL1.out, HL2.out, h1.each, h2.each] at K4
  have HE := Lib.hid (led_eq l m)
  clear h1 h2 f1 f2 HL1 HL2
  generalize decide (l = m) = b at HE ⊢
  go_enter Tryd.func14, Tryd.ntmps14
  go_upto_region 1 with fail
  change Code.wp _ _ _ _ ((w.alloc (.cells #[.int .i64 l.day, .slice s.a1 l.curs.length s.c1, .slice s.a2 l.unders.length s.c2, .slice s.a3 l.instrs.length s.c3, .slice s.a4 l.accts.length s.c4, .slice s.a5 l.poss.length s.c5, .slice s.a6 l.orders.length s.c6, .slice s.a7 l.avail.length s.c7, .slice s.a8 l.locs.length s.c8] 31)).alloc (.cells #[.int .i64 m.day, .slice r.a1 m.curs.length r.c1, .slice r.a2 m.unders.length r.c2, .slice r.a3 m.instrs.length r.c3, .slice r.a4 m.accts.length r.c4, .slice r.a5 m.poss.length r.c5, .slice r.a6 m.orders.length r.c6, .slice r.a7 m.avail.length r.c7, .slice r.a8 m.locs.length r.c8] 31))
  generalize (w.alloc (.cells #[.int .i64 l.day, .slice s.a1 l.curs.length s.c1, .slice s.a2 l.unders.length s.c2, .slice s.a3 l.instrs.length s.c3, .slice s.a4 l.accts.length s.c4, .slice s.a5 l.poss.length s.c5, .slice s.a6 l.orders.length s.c6, .slice s.a7 l.avail.length s.c7, .slice s.a8 l.locs.length s.c8] 31)).alloc (.cells #[.int .i64 m.day, .slice r.a1 m.curs.length r.c1, .slice r.a2 m.unders.length r.c2, .slice r.a3 m.instrs.length r.c3, .slice r.a4 m.accts.length r.c4, .slice r.a5 m.poss.length r.c5, .slice r.a6 m.orders.length r.c6, .slice r.a7 m.avail.length r.c7, .slice r.a8 m.locs.length r.c8] 31) = w0 at *
  have XH := Lib.hid X
  have x0 := X.one.c0
  have y0 := X.two.c0
  have x1 := X.one.c1
  have y1 := X.two.c1
  clear X
  by_cases hd : l.day = m.day
  rotate_left
  · have hb : (l.day == m.day) = false := by simpa using hd
    have HX : Hid (b = false) := by unfold Hid; rw [HE.out, decide_eq_false hd]; simp
    clear hd HE
    go_wp2_with fail
    go_ret
    exact ⟨ret_bool HX.out.symm, XH.out.one.low⟩
  have hb : (l.day == m.day) = true := by simpa using hd
  have HD := Lib.hid (decide_eq_true hd)
  clear hd
  cases hq1 : decide (l.curs = m.curs) with
  | false =>
    rw [hq1] at K1
    have HX : Hid (b = false) := by unfold Hid; rw [HE.out, hq1]; simp
    clear hq1 HE
    go_wp2_with (first | (go_at_call 25; refine (K1.out _ XH.out).mono ?_; rintro e w1 ⟨rfl, hn⟩; have X1 := Lib.hid (XH.out.keep (bel_of hn)); clear hn; have x2 := X1.out.one.c2; have y2 := X1.out.two.c2) | fail)
    go_ret
    exact ⟨ret_bool HX.out.symm, X1.out.one.low⟩
  | true =>
  rw [hq1] at K1
  have HD1 := Lib.hid hq1
  clear hq1
  cases hq2 : decide (l.unders = m.unders) with
  | false =>
    rw [hq2] at K2
    have HX : Hid (b = false) := by unfold Hid; rw [HE.out, hq2]; simp
    clear hq2 HE
    go_wp2_with (first | (go_at_call 25; refine (K1.out _ XH.out).mono ?_; rintro e w1 ⟨rfl, hn⟩; have X1 := Lib.hid (XH.out.keep (bel_of hn)); clear hn; have x2 := X1.out.one.c2; have y2 := X1.out.two.c2) | (go_at_call 26; refine (K2.out _ X1.out).mono ?_; rintro e w2 ⟨rfl, hn⟩; have X2 := Lib.hid (X1.out.keep (bel_of hn)); clear hn; have x3 := X2.out.one.c3; have y3 := X2.out.two.c3) | fail)
    go_ret
    exact ⟨ret_bool HX.out.symm, X2.out.one.low⟩
  | true =>
  rw [hq2] at K2
  have HD2 := Lib.hid hq2
  clear hq2
  cases hq3 : decide (l.instrs = m.instrs) with
  | false =>
    rw [hq3] at K3
    have HX : Hid (b = false) := by unfold Hid; rw [HE.out, hq3]; simp
    clear hq3 HE
    go_wp2_with (first | (go_at_call 25; refine (K1.out _ XH.out).mono ?_; rintro e w1 ⟨rfl, hn⟩; have X1 := Lib.hid (XH.out.keep (bel_of hn)); clear hn; have x2 := X1.out.one.c2; have y2 := X1.out.two.c2) | (go_at_call 26; refine (K2.out _ X1.out).mono ?_; rintro e w2 ⟨rfl, hn⟩; have X2 := Lib.hid (X1.out.keep (bel_of hn)); clear hn; have x3 := X2.out.one.c3; have y3 := X2.out.two.c3) | (go_at_call 27; refine (K3.out _ X2.out).mono ?_; rintro e w3 ⟨rfl, hn⟩; have X3 := Lib.hid (X2.out.keep (bel_of hn)); clear hn; have x5 := X3.out.one.c5; have y5 := X3.out.two.c5) | fail)
    go_ret
    exact ⟨ret_bool HX.out.symm, X3.out.one.low⟩
  | true =>
  rw [hq3] at K3
  have HD3 := Lib.hid hq3
  clear hq3
  cases hq5 : decide (l.poss = m.poss) with
  | false =>
    rw [hq5] at K5
    have HX : Hid (b = false) := by unfold Hid; rw [HE.out, hq5]; simp
    clear hq5 HE
    go_wp2_with (first | (go_at_call 25; refine (K1.out _ XH.out).mono ?_; rintro e w1 ⟨rfl, hn⟩; have X1 := Lib.hid (XH.out.keep (bel_of hn)); clear hn; have x2 := X1.out.one.c2; have y2 := X1.out.two.c2) | (go_at_call 26; refine (K2.out _ X1.out).mono ?_; rintro e w2 ⟨rfl, hn⟩; have X2 := Lib.hid (X1.out.keep (bel_of hn)); clear hn; have x3 := X2.out.one.c3; have y3 := X2.out.two.c3) | (go_at_call 27; refine (K3.out _ X2.out).mono ?_; rintro e w3 ⟨rfl, hn⟩; have X3 := Lib.hid (X2.out.keep (bel_of hn)); clear hn; have x5 := X3.out.one.c5; have y5 := X3.out.two.c5) | (go_at_call 28; refine (K5.out _ X3.out).mono ?_; rintro e w5 ⟨rfl, hn⟩; have X5 := Lib.hid (X3.out.keep (bel_of hn)); clear hn; have x6 := X5.out.one.c6; have y6 := X5.out.two.c6) | fail)
    go_ret
    exact ⟨ret_bool HX.out.symm, X5.out.one.low⟩
  | true =>
  rw [hq5] at K5
  have HD5 := Lib.hid hq5
  clear hq5
  cases hq6 : decide (l.orders = m.orders) with
  | false =>
    rw [hq6] at K6
    have HX : Hid (b = false) := by unfold Hid; rw [HE.out, hq6]; simp
    clear hq6 HE
    go_wp2_with (first | (go_at_call 25; refine (K1.out _ XH.out).mono ?_; rintro e w1 ⟨rfl, hn⟩; have X1 := Lib.hid (XH.out.keep (bel_of hn)); clear hn; have x2 := X1.out.one.c2; have y2 := X1.out.two.c2) | (go_at_call 26; refine (K2.out _ X1.out).mono ?_; rintro e w2 ⟨rfl, hn⟩; have X2 := Lib.hid (X1.out.keep (bel_of hn)); clear hn; have x3 := X2.out.one.c3; have y3 := X2.out.two.c3) | (go_at_call 27; refine (K3.out _ X2.out).mono ?_; rintro e w3 ⟨rfl, hn⟩; have X3 := Lib.hid (X2.out.keep (bel_of hn)); clear hn; have x5 := X3.out.one.c5; have y5 := X3.out.two.c5) | (go_at_call 28; refine (K5.out _ X3.out).mono ?_; rintro e w5 ⟨rfl, hn⟩; have X5 := Lib.hid (X3.out.keep (bel_of hn)); clear hn; have x6 := X5.out.one.c6; have y6 := X5.out.two.c6) | (go_at_call 29; refine (K6.out _ X5.out).mono ?_; rintro e w6 ⟨rfl, hn⟩; have X6 := Lib.hid (X5.out.keep (bel_of hn)); clear hn; have x7 := X6.out.one.c7; have y7 := X6.out.two.c7) | fail)
    go_ret
    exact ⟨ret_bool HX.out.symm, X6.out.one.low⟩
  | true =>
  rw [hq6] at K6
  have HD6 := Lib.hid hq6
  clear hq6
  cases hq7 : decide (l.avail = m.avail) with
  | false =>
    rw [hq7] at K7
    have HX : Hid (b = false) := by unfold Hid; rw [HE.out, hq7]; simp
    clear hq7 HE
    go_wp2_with (first | (go_at_call 25; refine (K1.out _ XH.out).mono ?_; rintro e w1 ⟨rfl, hn⟩; have X1 := Lib.hid (XH.out.keep (bel_of hn)); clear hn; have x2 := X1.out.one.c2; have y2 := X1.out.two.c2) | (go_at_call 26; refine (K2.out _ X1.out).mono ?_; rintro e w2 ⟨rfl, hn⟩; have X2 := Lib.hid (X1.out.keep (bel_of hn)); clear hn; have x3 := X2.out.one.c3; have y3 := X2.out.two.c3) | (go_at_call 27; refine (K3.out _ X2.out).mono ?_; rintro e w3 ⟨rfl, hn⟩; have X3 := Lib.hid (X2.out.keep (bel_of hn)); clear hn; have x5 := X3.out.one.c5; have y5 := X3.out.two.c5) | (go_at_call 28; refine (K5.out _ X3.out).mono ?_; rintro e w5 ⟨rfl, hn⟩; have X5 := Lib.hid (X3.out.keep (bel_of hn)); clear hn; have x6 := X5.out.one.c6; have y6 := X5.out.two.c6) | (go_at_call 29; refine (K6.out _ X5.out).mono ?_; rintro e w6 ⟨rfl, hn⟩; have X6 := Lib.hid (X5.out.keep (bel_of hn)); clear hn; have x7 := X6.out.one.c7; have y7 := X6.out.two.c7) | (go_at_call 30; refine (K7.out _ X6.out).mono ?_; rintro e w7 ⟨rfl, hn⟩; have X7 := Lib.hid (X6.out.keep (bel_of hn)); clear hn; have x8 := X7.out.one.c8; have y8 := X7.out.two.c8) | fail)
    go_ret
    exact ⟨ret_bool HX.out.symm, X7.out.one.low⟩
  | true =>
  rw [hq7] at K7
  have HD7 := Lib.hid hq7
  clear hq7
  cases hq8 : decide (l.locs = m.locs) with
  | false =>
    rw [hq8] at K8
    have HX : Hid (b = false) := by unfold Hid; rw [HE.out, hq8]; simp
    clear hq8 HE
    go_wp2_with (first | (go_at_call 25; refine (K1.out _ XH.out).mono ?_; rintro e w1 ⟨rfl, hn⟩; have X1 := Lib.hid (XH.out.keep (bel_of hn)); clear hn; have x2 := X1.out.one.c2; have y2 := X1.out.two.c2) | (go_at_call 26; refine (K2.out _ X1.out).mono ?_; rintro e w2 ⟨rfl, hn⟩; have X2 := Lib.hid (X1.out.keep (bel_of hn)); clear hn; have x3 := X2.out.one.c3; have y3 := X2.out.two.c3) | (go_at_call 27; refine (K3.out _ X2.out).mono ?_; rintro e w3 ⟨rfl, hn⟩; have X3 := Lib.hid (X2.out.keep (bel_of hn)); clear hn; have x5 := X3.out.one.c5; have y5 := X3.out.two.c5) | (go_at_call 28; refine (K5.out _ X3.out).mono ?_; rintro e w5 ⟨rfl, hn⟩; have X5 := Lib.hid (X3.out.keep (bel_of hn)); clear hn; have x6 := X5.out.one.c6; have y6 := X5.out.two.c6) | (go_at_call 29; refine (K6.out _ X5.out).mono ?_; rintro e w6 ⟨rfl, hn⟩; have X6 := Lib.hid (X5.out.keep (bel_of hn)); clear hn; have x7 := X6.out.one.c7; have y7 := X6.out.two.c7) | (go_at_call 30; refine (K7.out _ X6.out).mono ?_; rintro e w7 ⟨rfl, hn⟩; have X7 := Lib.hid (X6.out.keep (bel_of hn)); clear hn; have x8 := X7.out.one.c8; have y8 := X7.out.two.c8) | (go_at_call 31; refine (K8.out _ X7.out).mono ?_; rintro e w8 ⟨rfl, hn⟩; have X8 := Lib.hid (X7.out.keep (bel_of hn)); clear hn; have x4 := X8.out.one.c4; have y4 := X8.out.two.c4) | fail)
    go_ret
    exact ⟨ret_bool HX.out.symm, X8.out.one.low⟩
  | true =>
  rw [hq8] at K8
  have HD8 := Lib.hid hq8
  clear hq8
  cases hq4 : decide (l.accts = m.accts) with
  | false =>
    rw [hq4] at K4
    have HX : Hid (b = false) := by unfold Hid; rw [HE.out, hq4]; simp
    clear hq4 HE
    go_wp2_with (first | (go_at_call 25; refine (K1.out _ XH.out).mono ?_; rintro e w1 ⟨rfl, hn⟩; have X1 := Lib.hid (XH.out.keep (bel_of hn)); clear hn; have x2 := X1.out.one.c2; have y2 := X1.out.two.c2) | (go_at_call 26; refine (K2.out _ X1.out).mono ?_; rintro e w2 ⟨rfl, hn⟩; have X2 := Lib.hid (X1.out.keep (bel_of hn)); clear hn; have x3 := X2.out.one.c3; have y3 := X2.out.two.c3) | (go_at_call 27; refine (K3.out _ X2.out).mono ?_; rintro e w3 ⟨rfl, hn⟩; have X3 := Lib.hid (X2.out.keep (bel_of hn)); clear hn; have x5 := X3.out.one.c5; have y5 := X3.out.two.c5) | (go_at_call 28; refine (K5.out _ X3.out).mono ?_; rintro e w5 ⟨rfl, hn⟩; have X5 := Lib.hid (X3.out.keep (bel_of hn)); clear hn; have x6 := X5.out.one.c6; have y6 := X5.out.two.c6) | (go_at_call 29; refine (K6.out _ X5.out).mono ?_; rintro e w6 ⟨rfl, hn⟩; have X6 := Lib.hid (X5.out.keep (bel_of hn)); clear hn; have x7 := X6.out.one.c7; have y7 := X6.out.two.c7) | (go_at_call 30; refine (K7.out _ X6.out).mono ?_; rintro e w7 ⟨rfl, hn⟩; have X7 := Lib.hid (X6.out.keep (bel_of hn)); clear hn; have x8 := X7.out.one.c8; have y8 := X7.out.two.c8) | (go_at_call 31; refine (K8.out _ X7.out).mono ?_; rintro e w8 ⟨rfl, hn⟩; have X8 := Lib.hid (X7.out.keep (bel_of hn)); clear hn; have x4 := X8.out.one.c4; have y4 := X8.out.two.c4) | (go_at_call 32; refine (K4.out _ X8.out).mono ?_; rintro e w4 ⟨rfl, b4⟩; have X4 := Lib.hid (X8.out.keep b4)) | fail)
    go_ret
    exact ⟨ret_bool HX.out.symm, X4.out.one.low⟩
  | true =>
  rw [hq4] at K4
  have HD4 := Lib.hid hq4
  clear hq4
  have HX : Hid (b = true) := by unfold Hid; rw [HE.out, HD.out, HD1.out, HD2.out, HD3.out, HD5.out, HD6.out, HD7.out, HD8.out, HD4.out]; rfl
  clear HE
  go_wp2_with (first | (go_at_call 25; refine (K1.out _ XH.out).mono ?_; rintro e w1 ⟨rfl, hn⟩; have X1 := Lib.hid (XH.out.keep (bel_of hn)); clear hn; have x2 := X1.out.one.c2; have y2 := X1.out.two.c2) | (go_at_call 26; refine (K2.out _ X1.out).mono ?_; rintro e w2 ⟨rfl, hn⟩; have X2 := Lib.hid (X1.out.keep (bel_of hn)); clear hn; have x3 := X2.out.one.c3; have y3 := X2.out.two.c3) | (go_at_call 27; refine (K3.out _ X2.out).mono ?_; rintro e w3 ⟨rfl, hn⟩; have X3 := Lib.hid (X2.out.keep (bel_of hn)); clear hn; have x5 := X3.out.one.c5; have y5 := X3.out.two.c5) | (go_at_call 28; refine (K5.out _ X3.out).mono ?_; rintro e w5 ⟨rfl, hn⟩; have X5 := Lib.hid (X3.out.keep (bel_of hn)); clear hn; have x6 := X5.out.one.c6; have y6 := X5.out.two.c6) | (go_at_call 29; refine (K6.out _ X5.out).mono ?_; rintro e w6 ⟨rfl, hn⟩; have X6 := Lib.hid (X5.out.keep (bel_of hn)); clear hn; have x7 := X6.out.one.c7; have y7 := X6.out.two.c7) | (go_at_call 30; refine (K7.out _ X6.out).mono ?_; rintro e w7 ⟨rfl, hn⟩; have X7 := Lib.hid (X6.out.keep (bel_of hn)); clear hn; have x8 := X7.out.one.c8; have y8 := X7.out.two.c8) | (go_at_call 31; refine (K8.out _ X7.out).mono ?_; rintro e w8 ⟨rfl, hn⟩; have X8 := Lib.hid (X7.out.keep (bel_of hn)); clear hn; have x4 := X8.out.one.c4; have y4 := X8.out.two.c4) | (go_at_call 32; refine (K4.out _ X8.out).mono ?_; rintro e w4 ⟨rfl, b4⟩; have X4 := Lib.hid (X8.out.keep b4)) | fail)
  go_ret
  exact ⟨ret_bool HX.out.symm, X4.out.one.low⟩
end Go.Proofs.YtocjfjikkdpfdaaDoor.LedW
namespace Go.Proofs.YtocjfjikkdpfdaaDoor.LedW
open Go.RowKit Go.Proofs.YtocjfjikkdpfdaaDoor.Bas Go.Proofs.YtocjfjikkdpfdaaDoor.LedM

theorem drew_heap (w : World) : w.drew.heap = w.heap := rfl
theorem TwoLed.drewN {w A : World} {s : Lists} {l : Led} {vs : List (Value × Acc)} {r : Lists} {m : Led} {us : List (Value × Acc)} (h : TwoLed w A s l vs r m us) (n : Nat) : TwoLed w (A.drewN n) s l vs r m us := ⟨h.one.drewN n, h.two.drewN n⟩
theorem TwoLed.drew {w A : World} {s : Lists} {l : Led} {vs : List (Value × Acc)} {r : Lists} {m : Led} {us : List (Value × Acc)} (h : TwoLed w A s l vs r m us) : TwoLed w A.drew s l vs r m us := ⟨h.one.drew, h.two.drew⟩
section
variable {w W : World} {g : Nat} {s : Lists} {l : Led} {vs : List (Value × Acc)} {b off k : Nat} {x : Value × Acc}
theorem led_c4 (h : LedH w W g s l vs) (ha : s.a4 = some ⟨b, off, none⟩) : W.cell? ⟨g, 4, none⟩ = some (.slice (some ⟨b, off, none⟩) l.accts.length s.c4) := ha ▸ h.c4
theorem acc_c (h : LedH w W g s l vs) (ha : s.a4 = some ⟨b, off, none⟩) (hk : k < vs.length) (hx : vs[k] = x) (c : Nat) (u : Value) (hu : (accC x)[c]? = some u) : W.cell? ⟨b, off + k * 4 + c, none⟩ = some u := by
  obtain ⟨b', off', h1, h2⟩ := rec_at len_acc (by decide) h.at_.accts hk
  rw [ha] at h1
  cases h1
  rw [hx] at h2
  rw [Nat.add_assoc]
  exact h2 c u hu
theorem acc_c0 (h : LedH w W g s l vs) (ha : s.a4 = some ⟨b, off, none⟩) (hk : k < vs.length) (hx : vs[k] = x) : W.cell? ⟨b, off + k * 4, none⟩ = some (.int .i64 x.2.parent) := acc_c h ha hk hx 0 _ rfl
theorem acc_c1 (h : LedH w W g s l vs) (ha : s.a4 = some ⟨b, off, none⟩) (hk : k < vs.length) (hx : vs[k] = x) : W.cell? ⟨b, off + k * 4 + 1, none⟩ = some x.1 := acc_c h ha hk hx 1 _ rfl
theorem acc_c2 (h : LedH w W g s l vs) (ha : s.a4 = some ⟨b, off, none⟩) (hk : k < vs.length) (hx : vs[k] = x) : W.cell? ⟨b, off + k * 4 + 2, none⟩ = some (.bool x.2.flag) := acc_c h ha hk hx 2 _ rfl
theorem acc_c3 (h : LedH w W g s l vs) (ha : s.a4 = some ⟨b, off, none⟩) (hk : k < vs.length) (hx : vs[k] = x) : W.cell? ⟨b, off + k * 4 + 3, none⟩ = some (.int .i64 x.2.last) := acc_c h ha hk hx 3 _ rfl
end
theorem fill4_box {W : World} {g : Nat} {t : TypeId} {z0 z1 z2 z3 : Value} (hb : Box W g t #[z0, z1, z2, z3]) (v0 v1 v2 v3 : Value) : Box ((((W.setCell ⟨g, 0, none⟩ v0).setCell ⟨g, 1, none⟩ v1).setCell ⟨g, 2, none⟩ v2).setCell ⟨g, 3, none⟩ v3) g t #[v0, v1, v2, v3] := by
  have := (((hb.set 0 v0).set 1 v1).set 2 v2).set 3 v3
  simpa using this
theorem fill4_far {W : World} {g g' : Nat} {t : TypeId} {cs : Array Value} (hb : Box W g' t cs) (hne : g' ≠ g) (v0 v1 v2 v3 : Value) : Box ((((W.setCell ⟨g, 0, none⟩ v0).setCell ⟨g, 1, none⟩ v1).setCell ⟨g, 2, none⟩ v2).setCell ⟨g, 3, none⟩ v3) g' t cs :=
  (((hb.far (p := ⟨g, 0, none⟩) hne v0).far (p := ⟨g, 1, none⟩) hne v1).far (p := ⟨g, 2, none⟩) hne v2).far (p := ⟨g, 3, none⟩) hne v3
theorem fill4_low {n : Nat} {w W : World} (h : Below n w W) {g : Nat} (hg : n ≤ g) (v0 v1 v2 v3 : Value) : Below n w ((((W.setCell ⟨g, 0, none⟩ v0).setCell ⟨g, 1, none⟩ v1).setCell ⟨g, 2, none⟩ v2).setCell ⟨g, 3, none⟩ v3) :=
  (((h.setCell (p := ⟨g, 0, none⟩) hg v0).setCell (p := ⟨g, 1, none⟩) hg v1).setCell (p := ⟨g, 2, none⟩) hg v2).setCell (p := ⟨g, 3, none⟩) hg v3
end Go.Proofs.YtocjfjikkdpfdaaDoor.LedW
namespace Go.Proofs.YtocjfjikkdpfdaaDoor.LedW
open Go.RowKit Go.Proofs.YtocjfjikkdpfdaaDoor.Bas Go.Proofs.YtocjfjikkdpfdaaDoor.LedM


theorem LedOwn.lay_curs {base : Nat} {W : World} {s : Lists} {l : Led} {us : List (Value × Acc)} (h : LedOwn base W s l us) {p : Option Addr} {q : Nat} {xs : List (Int × Int)} (hr : W.ownsRow base 55 2 (.slice p xs.length q) xs.length (xs.flatMap curC)) :
    LedOwn base W { s with a1 := p, c1 := q } { l with curs := xs } us := ⟨hr, h.unders, h.instrs, h.accts, h.poss, h.orders, h.avail, h.locs, h.each, h.cash, h.dist, h.free⟩

theorem LedOwn.lay_unders {base : Nat} {W : World} {s : Lists} {l : Led} {us : List (Value × Acc)} (h : LedOwn base W s l us) {p : Option Addr} {q : Nat} {xs : List Und} (hr : W.ownsRow base 57 4 (.slice p xs.length q) xs.length (xs.flatMap undC)) :
    LedOwn base W { s with a2 := p, c2 := q } { l with unders := xs } us := ⟨h.curs, hr, h.instrs, h.accts, h.poss, h.orders, h.avail, h.locs, h.each, h.cash, h.dist, h.free⟩

theorem LedOwn.lay_instrs {base : Nat} {W : World} {s : Lists} {l : Led} {us : List (Value × Acc)} (h : LedOwn base W s l us) {p : Option Addr} {q : Nat} {xs : List Ins} (hr : W.ownsRow base 60 7 (.slice p xs.length q) xs.length (xs.flatMap insC)) :
    LedOwn base W { s with a3 := p, c3 := q } { l with instrs := xs } us := ⟨h.curs, h.unders, hr, h.accts, h.poss, h.orders, h.avail, h.locs, h.each, h.cash, h.dist, h.free⟩

theorem LedOwn.lay_poss {base : Nat} {W : World} {s : Lists} {l : Led} {us : List (Value × Acc)} (h : LedOwn base W s l us) {p : Option Addr} {q : Nat} {xs : List Tri} (hr : W.ownsRow base 65 3 (.slice p xs.length q) xs.length (xs.flatMap triC)) :
    LedOwn base W { s with a5 := p, c5 := q } { l with poss := xs } us := ⟨h.curs, h.unders, h.instrs, h.accts, hr, h.orders, h.avail, h.locs, h.each, h.cash, h.dist, h.free⟩

theorem LedOwn.lay_orders {base : Nat} {W : World} {s : Lists} {l : Led} {us : List (Value × Acc)} (h : LedOwn base W s l us) {p : Option Addr} {q : Nat} {xs : List Ord} (hr : W.ownsRow base 67 5 (.slice p xs.length q) xs.length (xs.flatMap ordC)) :
    LedOwn base W { s with a6 := p, c6 := q } { l with orders := xs } us := ⟨h.curs, h.unders, h.instrs, h.accts, h.poss, hr, h.avail, h.locs, h.each, h.cash, h.dist, h.free⟩

theorem LedOwn.lay_avail {base : Nat} {W : World} {s : Lists} {l : Led} {us : List (Value × Acc)} (h : LedOwn base W s l us) {p : Option Addr} {q : Nat} {xs : List Int} (hr : W.ownsRow base 3 1 (.slice p xs.length q) xs.length (i64s xs)) (hf : ∀ x ∈ us, Apart (.slice p xs.length q) x.1) :
    LedOwn base W { s with a7 := p, c7 := q } { l with avail := xs } us := ⟨h.curs, h.unders, h.instrs, h.accts, h.poss, h.orders, hr, h.locs, h.each, h.cash, h.dist, hf⟩

theorem LedOwn.lay_locs {base : Nat} {W : World} {s : Lists} {l : Led} {us : List (Value × Acc)} (h : LedOwn base W s l us) {p : Option Addr} {q : Nat} {xs : List Tri} (hr : W.ownsRow base 68 3 (.slice p xs.length q) xs.length (xs.flatMap triC)) :
    LedOwn base W { s with a8 := p, c8 := q } { l with locs := xs } us := ⟨h.curs, h.unders, h.instrs, h.accts, h.poss, h.orders, h.avail, hr, h.each, h.cash, h.dist, h.free⟩

theorem box_drew {W : World} {g : Nat} {t : TypeId} {cs : Array Value} (h : Box W g t cs) : Box W.drew g t cs := h
/-- the document's Copy, as far as it has come -/
structure RC (w W : World) (s : Lists) (l : Led) (cs : Array Value) (so : Lists) (lo : Led) (us : List (Value × Acc)) : Prop where
  low : Below w.heap.size w W
  b1 : Box W w.heap.size 31 #[.int .i64 l.day, .slice s.a1 l.curs.length s.c1, .slice s.a2 l.unders.length s.c2, .slice s.a3 l.instrs.length s.c3, .slice s.a4 l.accts.length s.c4, .slice s.a5 l.poss.length s.c5, .slice s.a6 l.orders.length s.c6, .slice s.a7 l.avail.length s.c7, .slice s.a8 l.locs.length s.c8]
  b2 : Box W (w.heap.size + 1) 31 zeroL
  b3 : Box W (w.heap.size + 2) 31 cs
  own : LedOwn w.heap.size W so lo us
section
variable {w A B : World} {s : Lists} {l : Led} {vs : List (Value × Acc)} {cs : Array Value} {so : Lists} {lo : Led} {us : List (Value × Acc)}
theorem RC.keep (h : RC w A s l cs so lo us) (b : Below A.heap.size A B) : RC w B s l cs so lo us := ⟨h.low.trans (b.mono h.low.size), h.b1.keep b, h.b2.keep b, h.b3.keep b, h.own.below b⟩
theorem led_drew {W : World} (h : LedAt W s l vs) : LedAt W.drew s l vs := ⟨h.curs, h.unders, h.instrs, h.accts, h.each, h.cash, h.poss, h.orders, h.avail, h.locs, h.caps⟩
theorem own_led_drew {base : Nat} {W : World} (h : LedOwn base W s l vs) : LedOwn base W.drew s l vs := ⟨h.curs, h.unders, h.instrs, h.accts, h.poss, h.orders, h.avail, h.locs, h.each, h.cash, h.dist, h.free⟩
theorem RC.drew (h : RC w A s l cs so lo us) : RC w A.drew s l cs so lo us := ⟨h.low.drew, h.b1, h.b2, h.b3, own_led_drew h.own⟩
/-- the boxes alone -/
structure RB (w W : World) (s : Lists) (l : Led) (cs : Array Value) : Prop where
  low : Below w.heap.size w W
  b1 : Box W w.heap.size 31 #[.int .i64 l.day, .slice s.a1 l.curs.length s.c1, .slice s.a2 l.unders.length s.c2, .slice s.a3 l.instrs.length s.c3, .slice s.a4 l.accts.length s.c4, .slice s.a5 l.poss.length s.c5, .slice s.a6 l.orders.length s.c6, .slice s.a7 l.avail.length s.c7, .slice s.a8 l.locs.length s.c8]
  b2 : Box W (w.heap.size + 1) 31 zeroL
  b3 : Box W (w.heap.size + 2) 31 cs
theorem RC.rb (h : RC w A s l cs so lo us) : RB w A s l cs := ⟨h.low, h.b1, h.b2, h.b3⟩
theorem RB.keep (h : RB w A s l cs) (b : Below A.heap.size A B) : RB w B s l cs := ⟨h.low.trans (b.mono h.low.size), h.b1.keep b, h.b2.keep b, h.b3.keep b⟩
theorem box_kept {W W' : World} {g : Nat} {t : TypeId} {cs : Array Value} (h : Box W g t cs) {b : Option Nat} (hg : W.grownBy W' b) (hne : b ≠ some g) : Box W' g t cs := (hg.block g h.lt (fun e => hne e.symm)).trans h
/-- a field of the copy's box is written; what it owns is told anew -/
theorem RC.put (h : RC w A s l cs so lo us) (j : Nat) (u : Value) {so' : Lists} {lo' : Led} {us' : List (Value × Acc)} (h' : LedOwn w.heap.size A so' lo' us') : RC w (A.setCell ⟨w.heap.size + 2, j, none⟩ u) s l (cs.setIfInBounds j u) so' lo' us' :=
  ⟨h.low.setCell (p := ⟨w.heap.size + 2, j, none⟩) (by simp) u, h.b1.far (p := ⟨w.heap.size + 2, j, none⟩) (by simp) u, h.b2.far (p := ⟨w.heap.size + 2, j, none⟩) (by simp) u, h.b3.set j u, h'.box h.b3 j u⟩
end

end Go.Proofs.YtocjfjikkdpfdaaDoor.LedW
namespace Go.Proofs.YtocjfjikkdpfdaaDoor.LedW
open Go.RowKit Go.Proofs.YtocjfjikkdpfdaaDoor.Bas Go.Proofs.YtocjfjikkdpfdaaDoor.LedM Go.Proofs.YtocjfjikkdpfdaaDoor.FixpM

theorem LedFit.set {l : Led} (hf : LedFit l) {v c : Nat} {x : Int} (hx : FixpW.I64 x) : LedFit (setCash l v c x) := by
  obtain ⟨h0, h1, h2, h3, h4, h5, h6, h7, h8, h9⟩ := hf
  refine ⟨by rw [setCash_len]; exact h0, h1, h2, h3, h4, fun a ha => ?_, h6, h7, h8, h9⟩
  rcases mem_modify (show a ∈ l.accts.modify v _ from ha) with h' | ⟨a0, h', rfl⟩
  · exact h5 a h'
  · obtain ⟨b1, b2, b3, b4⟩ := h5 a0 (List.mem_of_getElem? h')
    refine ⟨b1, b2, fun y hy => ?_, by simpa [putCash] using b4⟩
    rcases List.mem_or_eq_of_mem_set hy with hy | rfl
    · exact b3 y hy
    · exact hx
theorem payF_nofit {l : Led} {cur amount fr to_ : Int} (h1 : endF l cur fr = 0) (h2 : endF l cur to_ = 0) (hn : fits amount = false) : payF l cur amount fr to_ = (zeroLed, 4) := payF_sub h1 h2 (x1 := 0) (by unfold subF; rw [hn, Bool.and_false]; rfl) (by decide)
/-- an account's four cells -/
theorem own_row4 {base : Nat} {W : World} {s : Lists} {l : Led} {us : List (Value × Acc)} (h : LedOwn base W s l us) {k : Nat} (hk : k < us.length) {g : Nat} (ha : s.a4 = some ⟨g, 0, none⟩) (c : Nat) (u : Value) (hu : (accC us[k])[c]? = some u) : W.cell? ⟨g, k * 4 + c, none⟩ = some u := by
  obtain ⟨b, off, h1, h2⟩ := rec_at len_acc (by decide) h.at_.accts hk
  rw [ha] at h1
  cases h1
  have := h2 c u hu
  rwa [Nat.zero_add] at this
theorem fill9_box {W : World} {g : Nat} {t : TypeId} {z0 z1 z2 z3 z4 z5 z6 z7 z8 : Value} (hb : Box W g t #[z0, z1, z2, z3, z4, z5, z6, z7, z8]) (v0 v1 v2 v3 v4 v5 v6 v7 v8 : Value) : Box (((((((((W.setCell ⟨g, 0, none⟩ v0).setCell ⟨g, 1, none⟩ v1).setCell ⟨g, 2, none⟩ v2).setCell ⟨g, 3, none⟩ v3).setCell ⟨g, 4, none⟩ v4).setCell ⟨g, 5, none⟩ v5).setCell ⟨g, 6, none⟩ v6).setCell ⟨g, 7, none⟩ v7).setCell ⟨g, 8, none⟩ v8) g t #[v0, v1, v2, v3, v4, v5, v6, v7, v8] := by
  have := ((((((((hb.set 0 v0).set 1 v1).set 2 v2).set 3 v3).set 4 v4).set 5 v5).set 6 v6).set 7 v7).set 8 v8
  simpa using this
theorem fill9_far {W : World} {g g' : Nat} {t : TypeId} {cs : Array Value} (hb : Box W g' t cs) (h : g' ≠ g) (v0 v1 v2 v3 v4 v5 v6 v7 v8 : Value) : Box (((((((((W.setCell ⟨g, 0, none⟩ v0).setCell ⟨g, 1, none⟩ v1).setCell ⟨g, 2, none⟩ v2).setCell ⟨g, 3, none⟩ v3).setCell ⟨g, 4, none⟩ v4).setCell ⟨g, 5, none⟩ v5).setCell ⟨g, 6, none⟩ v6).setCell ⟨g, 7, none⟩ v7).setCell ⟨g, 8, none⟩ v8) g' t cs :=
  ((((((((hb.far (p := ⟨g, 0, none⟩) h v0).far (p := ⟨g, 1, none⟩) h v1).far (p := ⟨g, 2, none⟩) h v2).far (p := ⟨g, 3, none⟩) h v3).far (p := ⟨g, 4, none⟩) h v4).far (p := ⟨g, 5, none⟩) h v5).far (p := ⟨g, 6, none⟩) h v6).far (p := ⟨g, 7, none⟩) h v7).far (p := ⟨g, 8, none⟩) h v8
theorem give_low {A B : World} {P1 : Int → Prop} {P2 : Int → Lists → List (Value × Acc) → Prop} {P3 : Int → Lists → List (Value × Acc) → Prop} {P4 : Int → Int → Prop} {P5 : Int → Int → Prop} {P6 : Int → Int → Prop}
    (h : (∃ x1, P1 x1 ∧ ∃ s' us, P2 x1 s' us ∧ P3 x1 s' us ∧ Below A.heap.size A B) ∨ (∃ x1 x2, P4 x1 x2 ∧ P5 x1 x2 ∧ P6 x1 x2 ∧ Below A.heap.size A B)) : Below A.heap.size A B := by
  rcases h with ⟨_, _, _, _, _, _, h⟩ | ⟨_, _, _, _, _, h⟩ <;> exact h
end Go.Proofs.YtocjfjikkdpfdaaDoor.LedW
namespace Go.Proofs.YtocjfjikkdpfdaaDoor.LedW
open Go.RowKit Go.Proofs.YtocjfjikkdpfdaaDoor.Bas Go.Proofs.YtocjfjikkdpfdaaDoor.LedM Go.Proofs.YtocjfjikkdpfdaaDoor.FixpM

theorem fit_first : LedFit firstL := by
  refine ⟨by decide, ⟨by decide, by decide⟩, ?_, ?_, ?_, ?_, ?_, ?_, ?_, ?_⟩
  · intro x hx
    have : x = (1000000, 0) := by simpa [firstL] using hx
    subst this
    exact ⟨⟨by decide, by decide⟩, by decide, by decide⟩
  · intro x hx; simp [firstL] at hx
  · intro x hx; simp [firstL] at hx
  · intro x hx
    have : x = ⟨-1, [0], false, 0⟩ := by simpa [firstL] using hx
    subst this
    refine ⟨⟨by decide, by decide⟩, ⟨by decide, by decide⟩, ?_, by decide⟩
    intro z hz
    have : z = 0 := by simpa using hz
    subst this
    exact ⟨by decide, by decide⟩
  · intro x hx; simp [firstL] at hx
  · intro x hx; simp [firstL] at hx
  · intro x hx; simp [firstL] at hx
  · intro x hx; simp [firstL] at hx
def paidL : Led := ⟨0, [(1000000, 0)], [], [], [⟨-1, [-5], false, 0⟩, ⟨-1, [5], false, 0⟩], [], [], [], []⟩
theorem pay_first : payF firstL 0 5 0 1 = (paidL, 0) := by decide
theorem fit_paid : LedFit paidL := by
  have := (fit_first.set (v := 0) (c := 0) (x := -5) ⟨by decide, by decide⟩).set (v := 1) (c := 0) (x := 5) ⟨by decide, by decide⟩
  exact this
theorem good_first : goodF firstL = true := by decide
theorem good_paid : goodF paidL = true := by decide
end Go.Proofs.YtocjfjikkdpfdaaDoor.LedW
namespace Go.Proofs.YtocjfjikkdpfdaaDoor.LedW
open Go.ChangeShapes Go.WideShapes Go.ChangeAt Go.RowKit Go.Proofs.YtocjfjikkdpfdaaDoor.Bas Go.Proofs.YtocjfjikkdpfdaaDoor.LedM

def strC (x : List UInt8) : List Value := [.string ⟨x.toArray⟩]
theorem len_str (x : List UInt8) : (strC x).length = 1 := rfl
/-- the tables' cells, for a witness -/
def accepts : List Nat := [128, 191, 160, 191, 128, 159, 144, 191, 128, 143, 0, 0, 0, 0, 0, 0, 0, 0, 0, 0, 0, 0, 0, 0, 0, 0, 0, 0, 0, 0, 0, 0]
def acceptCells : Array Value := (accepts.map fun (n : Nat) => Value.int .u8 (n : Int)).toArray
def firstCells : Array Value := (Go.Pinned.utf8FirstZ.map fun (n : Nat) => Value.int .u8 (n : Int)).toArray
end Go.Proofs.YtocjfjikkdpfdaaDoor.LedW
