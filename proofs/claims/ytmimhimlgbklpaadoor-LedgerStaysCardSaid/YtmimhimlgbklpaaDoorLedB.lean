/- Same, and what the document says of a ledger; wakes; what the laws are handed. -/
import Derived.Test.YtmimhimlgbklpaaDoorBaseStage
import Derived.Test.YtmimhimlgbklpaaDoorLedLists
import Derived.Test.YtmimhimlgbklpaaDoorLedGoodMath
import Derived.Test.YtmimhimlgbklpaaDoorLedPush
import Derived.Test.YtmimhimlgbklpaaDoorLedA
import Derived.Test.YtmimhimlgbklpaaDoorFixpDoc
import Derived.Test.YtmimhimlgbklpaaDoorLedGoodAll
import Derived.Test.YtmimhimlgbklpaaDoorBaseLaid
set_option linter.unusedSimpArgs false
set_option linter.unusedVariables false
namespace Go.Proofs.YtmimhimlgbklpaaDoor.Bas
open Go Go.RowKit
section
variable {P : Program} {ops : Array Oper} {S : World → Prop} {Q : Exit → Act → World → Prop} {t : Nat}
/-- number i or number j may come up -/
theorem stage_both {i j k : Nat} {o o' : Oper} {s : Array Bool} {a : Act} {w : World} (ho : ops[i]? = some o) (ho' : ops[j]? = some o') (hr : Region.ready .any ops s = [i, j]) (hg : Region.wanted o (yielded ops a.tmps) = true) (hg' : Region.wanted o' (yielded ops a.tmps) = true)
    (h : ∀ K : Act → World → Prop, Hid (∀ a w, (i < t → S w) → Stage P ops Q S t k (s.setIfInBounds i true) a w → K a w) → o.wp P a w K Q)
    (h' : ∀ K : Act → World → Prop, Hid (∀ a w, (j < t → S w) → Stage P ops Q S t k (s.setIfInBounds j true) a w → K a w) → o'.wp P a w K Q) : Stage P ops Q S t (k + 1) s a w := by
  refine ⟨fun h0 => (by rw [hr] at h0; cases h0), fun n hn => ?_⟩
  rw [hr] at hn
  have hn' : n = i ∨ n = j := by simpa using hn
  rcases hn' with rfl | rfl
  · unfold wpOp
    simp only [ho]
    rw [if_pos hg]
    exact .inl (h _ fun a w h1 h2 => ⟨h1, h2.out⟩)
  · unfold wpOp
    simp only [ho']
    rw [if_pos hg']
    exact .inl (h' _ fun a w h1 h2 => ⟨h1, h2.out⟩)
end
end Go.Proofs.YtmimhimlgbklpaaDoor.Bas
namespace Go.Proofs.YtmimhimlgbklpaaDoor.LedW
open Go.RowKit Go.Proofs.YtmimhimlgbklpaaDoor.Bas Go.Proofs.YtmimhimlgbklpaaDoor.LedM

theorem acc_eq (x0 y0 : Int) (x1 y1 : List Int) (x2 y2 : Bool) (x3 y3 : Int) : decide ((⟨x0, x1, x2, x3⟩ : Acc) = ⟨y0, y1, y2, y3⟩) = (decide (x0 = y0) && decide (x2 = y2) && decide (x3 = y3) && decide (x1 = y1)) := by
  rw [Bool.eq_iff_iff]
  simp only [Bool.and_eq_true, decide_eq_true_eq, Acc.mk.injEq]
  constructor
  · rintro ⟨h0, h1, h2, h3⟩; exact ⟨⟨⟨h0, h2⟩, h3⟩, h1⟩
  · rintro ⟨⟨⟨h0, h2⟩, h3⟩, h1⟩; exact ⟨h0, h1, h2, h3⟩
theorem bel_of {w w' : World} (h : ∃ n, w' = w.drewN n) : Below w.heap.size w w' := by
  obtain ⟨n, rfl⟩ := h
  exact below_drewN (Below.refl _ _) n

set_option maxHeartbeats 1000000 in
theorem same1_calls (x y : Value × Acc) (w : World) (hx : CashAt w x) (hy : CashAt w y) (bx : x.2.cash.length ≤ 9223372036854775807) (by_ : y.2.cash.length ≤ 9223372036854775807) :
    Calls Tryd.prog 50 #[.agg #[.int .i64 x.2.parent, x.1, .bool x.2.flag, .int .i64 x.2.last], .agg #[.int .i64 y.2.parent, y.1, .bool y.2.flag, .int .i64 y.2.last]] w fun e w' => e = .returned (.bool (decide (x.2 = y.2))) ∧ Below w.heap.size w w' := by
  obtain ⟨xv, x0, x1, x2, x3⟩ := x
  obtain ⟨yv, y0, y1, y2, y3⟩ := y
  obtain ⟨ca, cc, hxv, _, hca⟩ := hx
  obtain ⟨cb, cd, hyv, _, hcb⟩ := hy
  simp only at hxv hyv hca hcb bx by_
  subst hxv hyv
  show Calls Tryd.prog 50 #[.agg #[.int .i64 x0, .slice ca x1.length cc, .bool x2, .int .i64 x3], .agg #[.int .i64 y0, .slice cb y1.length cd, .bool y2, .int .i64 y3]] w fun e w' => e = .returned (.bool (decide ((⟨x0, x1, x2, x3⟩ : Acc) = ⟨y0, y1, y2, y3⟩))) ∧ Below w.heap.size w w'
  have HE := Lib.hid (acc_eq x0 y0 x1 y1 x2 y2 x3 y3)
  generalize decide ((⟨x0, x1, x2, x3⟩ : Acc) = ⟨y0, y1, y2, y3⟩) = b at HE ⊢
  have X0 := (Box.new w 51 #[.int .i64 x0, .slice ca x1.length cc, .bool x2, .int .i64 x3]).alloc (.cells #[.int .i64 y0, .slice cb y1.length cd, .bool y2, .int .i64 y3] 51)
  have X1 := Box.new (w.alloc (.cells #[.int .i64 x0, .slice ca x1.length cc, .bool x2, .int .i64 x3] 51)) 51 #[.int .i64 y0, .slice cb y1.length cd, .bool y2, .int .i64 y3]
  rw [World.size_alloc] at X1
  have B := ((Below.refl w.heap.size w).alloc (Nat.le_refl _) (.cells #[.int .i64 x0, .slice ca x1.length cc, .bool x2, .int .i64 x3] 51)).alloc (by simp) (.cells #[.int .i64 y0, .slice cb y1.length cd, .bool y2, .int .i64 y3] 51)
  have HA := Lib.hid (hca.keep B)
  have HB := Lib.hid (hcb.keep B)
  clear hca hcb
  go_enter Tryd.func50, Tryd.ntmps50
  go_upto_region 1 with fail
  change Code.wp _ _ _ _ ((w.alloc (.cells #[.int .i64 x0, .slice ca x1.length cc, .bool x2, .int .i64 x3] 51)).alloc (.cells #[.int .i64 y0, .slice cb y1.length cd, .bool y2, .int .i64 y3] 51))
  generalize (w.alloc (.cells #[.int .i64 x0, .slice ca x1.length cc, .bool x2, .int .i64 x3] 51)).alloc (.cells #[.int .i64 y0, .slice cb y1.length cd, .bool y2, .int .i64 y3] 51) = w0 at *
  have c0 : w0.cell? ⟨w.heap.size, 0, none⟩ = some (.int .i64 x0) := X0.cell 0
  have c1 : w0.cell? ⟨w.heap.size, 1, none⟩ = some (.slice ca x1.length cc) := X0.cell 1
  have c2 : w0.cell? ⟨w.heap.size, 2, none⟩ = some (.bool x2) := X0.cell 2
  have c3 : w0.cell? ⟨w.heap.size, 3, none⟩ = some (.int .i64 x3) := X0.cell 3
  have d0 : w0.cell? ⟨w.heap.size + 1, 0, none⟩ = some (.int .i64 y0) := X1.cell 0
  have d1 : w0.cell? ⟨w.heap.size + 1, 1, none⟩ = some (.slice cb y1.length cd) := X1.cell 1
  have d2 : w0.cell? ⟨w.heap.size + 1, 2, none⟩ = some (.bool y2) := X1.cell 2
  have d3 : w0.cell? ⟨w.heap.size + 1, 3, none⟩ = some (.int .i64 y3) := X1.cell 3
  clear X0 X1
  by_cases h0 : x0 = y0
  rotate_left
  · have hb : (x0 == y0) = false := by simpa using h0
    have HX : Hid (b = false) := by unfold Hid; rw [HE.out, decide_eq_false h0]; simp
    clear h0 HE
    go_wp2_with fail
    go_ret
    exact ⟨ret_bool HX.out.symm, B⟩
  subst h0
  by_cases h2 : x2 = y2
  rotate_left
  · have hb : (x2 == y2) = false := by simpa using h2
    have HX : Hid (b = false) := by unfold Hid; rw [HE.out, decide_eq_false h2]; simp
    clear h2 HE
    go_wp2_with fail
    go_ret
    exact ⟨ret_bool HX.out.symm, B⟩
  subst h2
  by_cases h3 : x3 = y3
  rotate_left
  · have hb : (x3 == y3) = false := by simpa using h3
    have HX : Hid (b = false) := by unfold Hid; rw [HE.out, decide_eq_false h3]; simp
    clear h3 HE
    go_wp2_with fail
    go_ret
    exact ⟨ret_bool HX.out.symm, B⟩
  subst h3
  have HX : Hid (b = decide (x1 = y1)) := by unfold Hid; rw [HE.out]; simp
  clear HE
  have C := Lib.hid (equal_int ca cb cc cd x1 y1 w0 bx by_ HA.out HB.out)
  clear HA HB
  generalize decide (x1 = y1) = b1 at C HX
  go_wp2_with (go_at_call 47; refine C.out.mono ?_; rintro e w2 ⟨rfl, n, rfl⟩)
  go_ret
  exact ⟨ret_bool HX.out.symm, below_drewN B n⟩

set_option maxHeartbeats 2000000 in
theorem equalF_calls (a b : Option Addr) (ca0 cb0 : Nat) (xs ys : List (Value × Acc)) (w : World) (hbig : xs.length ≤ 9223372036854775807) (hbig2 : ys.length ≤ 9223372036854775807) (ha : At w a (xs.flatMap accC)) (hb : At w b (ys.flatMap accC))
    (hx : ∀ x ∈ xs, CashAt w x ∧ x.2.cash.length ≤ 9223372036854775807) (hy : ∀ x ∈ ys, CashAt w x ∧ x.2.cash.length ≤ 9223372036854775807) :
    Calls Tryd.prog 49 #[.slice a xs.length ca0, .slice b ys.length cb0, .func (.func 50) #[] #[]] w fun e w' => e = .returned (.bool (decide (xs.map (·.2) = ys.map (·.2)))) ∧ Below w.heap.size w w' := by
  have HA := Lib.hid ha
  have HB := Lib.hid hb
  have _ := hbig2
  have HQX := Lib.hid hx
  have HQY := Lib.hid hy
  clear ha hb hx hy
  go_enter Tryd.func49, Tryd.ntmps49
  by_cases hl : xs.length = ys.length
  · have hlb : ((xs.length : Int) != (ys.length : Int)) = false := by simp [hl]
    have HL := Lib.hid hl
    clear hl
    go_wp2_with fail
    go_loopw [17] (fun i wr => ∃ k : Nat, k ≤ xs.length ∧ i = .int .i64 k ∧ Below w.heap.size w wr ∧ Hid ((xs.map (·.2)).take k = (ys.map (·.2)).take k)) (fun i _ => xs.length - (intOf i).toNat)
    case atStart => exact ⟨0, by omega, rfl, Below.refl _ _, by simp [Hid]⟩
    case round =>
      obtain ⟨k, hk, rfl, LW, H⟩ := hrel
      by_cases hlt : k < xs.length
      · have hlt2 : k < ys.length := by have := HL.out; omega
        obtain ⟨b1, off1, rfl, C1⟩ := rec_at len_acc (by decide) (HA.out.keep LW) hlt
        have hm := take_eq_succ (xs.map (·.2)) (ys.map (·.2)) k (by simpa using hlt) (by simpa using hlt2)
        simp only [List.getElem_map] at hm
        have hcx := HQX.out _ (List.getElem_mem hlt)
        have hcy := HQY.out _ (List.getElem_mem hlt2)
        have HXK : Hid (xs.map (·.2) = ys.map (·.2) → xs[k].2 = ys[k].2) := fun h => by
          have := congrArg (fun l => l[k]?) h
          simpa [hlt, hlt2] using this
        generalize xs[k] = x at *
        generalize hyk : ys[k] = y at *
        have HYK := Lib.hid hyk
        clear hyk
        have CC := Lib.hid (fun W (h : Below w.heap.size w W) => same1_calls x y W (hcx.1.keep h) (hcy.1.keep h) hcx.2 hcy.2)
        obtain ⟨xv, x0, x1, x2, x3⟩ := x
        obtain ⟨yv, y0, y1, y2, y3⟩ := y
        obtain ⟨ca, cc, hxv, _, _⟩ := hcx.1
        obtain ⟨cb, cd, hyv, _, _⟩ := hcy.1
        simp only at hxv hyv CC HXK hm
        subst hxv hyv
        clear hcx hcy
        have c0 := C1 0 _ rfl
        have c1 := C1 1 _ rfl
        have c2 := C1 2 _ rfl
        have c3 := C1 3 _ rfl
        clear C1
        simp only [← Nat.add_assoc, Nat.add_zero] at c0 c1 c2 c3
        obtain ⟨b2, off2, rfl, C2⟩ := rec_at len_acc (by decide) (HB.out.keep (LW.alloc LW.size (.cells #[.int .i64 x0, .slice ca x1.length cc, .bool x2, .int .i64 x3] 51))) hlt2
        rw [HYK.out] at C2
        clear HYK
        have d0 := C2 0 _ rfl
        have d1 := C2 1 _ rfl
        have d2 := C2 2 _ rfl
        have d3 := C2 3 _ rfl
        clear C2
        simp only [← Nat.add_assoc, Nat.add_zero] at d0 d1 d2 d3
        have X0 := (Box.new wr 51 #[.int .i64 x0, .slice ca x1.length cc, .bool x2, .int .i64 x3]).alloc (.cells #[.int .i64 y0, .slice cb y1.length cd, .bool y2, .int .i64 y3] 51)
        have X1 := Box.new (wr.alloc (.cells #[.int .i64 x0, .slice ca x1.length cc, .bool x2, .int .i64 x3] 51)) 51 #[.int .i64 y0, .slice cb y1.length cd, .bool y2, .int .i64 y3]
        rw [World.size_alloc] at X1
        have L2 := (LW.alloc LW.size (.cells #[.int .i64 x0, .slice ca x1.length cc, .bool x2, .int .i64 x3] 51)).alloc (by simp; have := LW.size; omega) (.cells #[.int .i64 y0, .slice cb y1.length cd, .bool y2, .int .i64 y3] 51)
        have hX := Lib.hid (And.intro X0 (And.intro X1 L2))
        have HQ := Lib.hid H.out
        have HM := Lib.hid hm
        clear X0 X1 L2 H hm
        go_upto_region 6 with fail
        clear c0 c1 c2 c3
        generalize hw3 : wr.alloc (.cells #[.int .i64 x0, .slice ca x1.length cc, .bool x2, .int .i64 x3] 51) = w3 at *
        go_upto_region 7 with fail
        subst hw3
        change Code.wp _ _ _ _ ((wr.alloc (.cells #[.int .i64 x0, .slice ca x1.length cc, .bool x2, .int .i64 x3] 51)).alloc (.cells #[.int .i64 y0, .slice cb y1.length cd, .bool y2, .int .i64 y3] 51))
        clear d0 d1 d2 d3
        generalize (wr.alloc (.cells #[.int .i64 x0, .slice ca x1.length cc, .bool x2, .int .i64 x3] 51)).alloc (.cells #[.int .i64 y0, .slice cb y1.length cd, .bool y2, .int .i64 y3] 51) = w4 at *
        have c0 : w4.cell? ⟨wr.heap.size, 0, none⟩ = some (.int .i64 x0) := hX.out.1.cell 0
        have c1 : w4.cell? ⟨wr.heap.size, 1, none⟩ = some (.slice ca x1.length cc) := hX.out.1.cell 1
        have c2 : w4.cell? ⟨wr.heap.size, 2, none⟩ = some (.bool x2) := hX.out.1.cell 2
        have c3 : w4.cell? ⟨wr.heap.size, 3, none⟩ = some (.int .i64 x3) := hX.out.1.cell 3
        have d0 : w4.cell? ⟨wr.heap.size + 1, 0, none⟩ = some (.int .i64 y0) := hX.out.2.1.cell 0
        have d1 : w4.cell? ⟨wr.heap.size + 1, 1, none⟩ = some (.slice cb y1.length cd) := hX.out.2.1.cell 1
        have d2 : w4.cell? ⟨wr.heap.size + 1, 2, none⟩ = some (.bool y2) := hX.out.2.1.cell 2
        have d3 : w4.cell? ⟨wr.heap.size + 1, 3, none⟩ = some (.int .i64 y3) := hX.out.2.1.cell 3
        by_cases he : (⟨x0, x1, x2, x3⟩ : Acc) = ⟨y0, y1, y2, y3⟩
        · have HI : Hid ((xs.map (·.2)).take (k + 1) = (ys.map (·.2)).take (k + 1)) := HM.out.2 ⟨HQ.out, he⟩
          have C := Lib.hid (CC.out w4 hX.out.2.2)
          rw [decide_eq_true he] at C
          clear CC HM HQ HXK he
          go_wp2_with (go_at_call 50; refine C.out.mono ?_; rintro e w5 ⟨rfl, b5⟩)
          go_roundw
          case rel => exact ⟨k + 1, by omega, by go_num, hX.out.2.2.trans (b5.mono hX.out.2.2.size), HI⟩
          case measure => simp [intOf]; omega
        · have HI : Hid (¬ (xs.map (·.2) = ys.map (·.2))) := fun h => he (HXK.out h)
          have C := Lib.hid (CC.out w4 hX.out.2.2)
          rw [decide_eq_false he] at C
          clear CC HM HQ HXK he
          go_wp2_with (go_at_call 50; refine C.out.mono ?_; rintro e w5 ⟨rfl, b5⟩)
          go_ret
          exact ⟨ret_bool (decide_eq_false HI.out).symm, hX.out.2.2.trans (b5.mono hX.out.2.2.size)⟩
      · have hkk : k = xs.length := by omega
        subst hkk
        have HI : Hid (xs.map (·.2) = ys.map (·.2)) := by
          have := H.out
          rwa [List.take_of_length_le (by simp), List.take_of_length_le (by simp [HL.out])] at this
        clear H
        go_wp2_with fail
        go_ret
        exact ⟨ret_bool (decide_eq_true HI.out).symm, LW⟩
  · have hne : ¬ (xs.map (·.2) = ys.map (·.2)) := fun h => hl (by simpa using congrArg List.length h)
    have hlb : ((xs.length : Int) != (ys.length : Int)) = true := by simp; omega
    have HI := Lib.hid hne
    clear hl hne
    go_wp2_with fail
    go_ret
    exact ⟨ret_bool (decide_eq_false HI.out).symm, Below.refl _ _⟩

theorem cash_len {W : World} {s : Lists} {l : Led} {vs : List (Value × Acc)} (hf : LedFit l) (h : LedAt W s l vs) : ∀ x ∈ vs, CashAt W x ∧ x.2.cash.length ≤ 9223372036854775807 := fun x hx => by
  refine ⟨h.cash x hx, ?_⟩
  have hm : x.2 ∈ l.accts := by
    rw [← h.each]
    exact List.mem_map_of_mem hx
  have := (hf.accts _ hm).2.2.2
  omega
/-- two ledgers' boxes -/
structure TwoLed (w W : World) (s : Lists) (l : Led) (vs : List (Value × Acc)) (r : Lists) (m : Led) (us : List (Value × Acc)) : Prop where
  one : LedH w W w.heap.size s l vs
  two : LedH w W (w.heap.size + 1) r m us
theorem TwoLed.keep {w A B : World} {s : Lists} {l : Led} {vs : List (Value × Acc)} {r : Lists} {m : Led} {us : List (Value × Acc)} (h : TwoLed w A s l vs r m us) (b : Below A.heap.size A B) : TwoLed w B s l vs r m us := ⟨h.one.keep b, h.two.keep b⟩
theorem twoLed_new (w : World) (s : Lists) (l : Led) (vs : List (Value × Acc)) (r : Lists) (m : Led) (us : List (Value × Acc)) (h1 : LedAt w s l vs) (h2 : LedAt w r m us) : TwoLed w ((w.alloc (.cells #[.int .i64 l.day, .slice s.a1 l.curs.length s.c1, .slice s.a2 l.unders.length s.c2, .slice s.a3 l.instrs.length s.c3, .slice s.a4 l.accts.length s.c4, .slice s.a5 l.poss.length s.c5, .slice s.a6 l.orders.length s.c6, .slice s.a7 l.avail.length s.c7, .slice s.a8 l.locs.length s.c8] 37)).alloc (.cells #[.int .i64 m.day, .slice r.a1 m.curs.length r.c1, .slice r.a2 m.unders.length r.c2, .slice r.a3 m.instrs.length r.c3, .slice r.a4 m.accts.length r.c4, .slice r.a5 m.poss.length r.c5, .slice r.a6 m.orders.length r.c6, .slice r.a7 m.avail.length r.c7, .slice r.a8 m.locs.length r.c8] 37)) s l vs r m us := by
  have X := ledH_new w s l vs h1
  have b : Below w.heap.size w (w.alloc (.cells #[.int .i64 l.day, .slice s.a1 l.curs.length s.c1, .slice s.a2 l.unders.length s.c2, .slice s.a3 l.instrs.length s.c3, .slice s.a4 l.accts.length s.c4, .slice s.a5 l.poss.length s.c5, .slice s.a6 l.orders.length s.c6, .slice s.a7 l.avail.length s.c7, .slice s.a8 l.locs.length s.c8] 37)) := X.low
  have Y := ledH_new (w.alloc (.cells #[.int .i64 l.day, .slice s.a1 l.curs.length s.c1, .slice s.a2 l.unders.length s.c2, .slice s.a3 l.instrs.length s.c3, .slice s.a4 l.accts.length s.c4, .slice s.a5 l.poss.length s.c5, .slice s.a6 l.orders.length s.c6, .slice s.a7 l.avail.length s.c7, .slice s.a8 l.locs.length s.c8] 37)) r m us (h2.keep b)
  rw [World.size_alloc] at Y
  exact ⟨X.alloc _, Y.box, Y.at_, b.trans (Y.low.mono (by rw [World.size_alloc]; omega))⟩
theorem led_eq (l m : Led) : decide (l = m) = (decide (l.day = m.day) && decide (l.curs = m.curs) && decide (l.unders = m.unders) && decide (l.instrs = m.instrs) && decide (l.poss = m.poss) && decide (l.orders = m.orders) && decide (l.avail = m.avail) && decide (l.locs = m.locs) && decide (l.accts = m.accts)) := by
  rw [Bool.eq_iff_iff]
  simp only [Bool.and_eq_true, decide_eq_true_eq]
  constructor
  · rintro rfl; simp
  · rintro ⟨⟨⟨⟨⟨⟨⟨⟨h1, h2⟩, h3⟩, h4⟩, h5⟩, h6⟩, h7⟩, h8⟩, h9⟩
    cases l; cases m
    simp only at h1 h2 h3 h4 h5 h6 h7 h8 h9
    subst h1 h2 h3 h4 h5 h6 h7 h8 h9
    rfl
set_option maxHeartbeats 4000000 in
set_option maxRecDepth 100000 in
theorem same_calls (s : Lists) (l : Led) (vs : List (Value × Acc)) (r : Lists) (m : Led) (us : List (Value × Acc)) (w : World) (h1 : LedAt w s l vs) (h2 : LedAt w r m us) (f1 : LedFit l) (f2 : LedFit m) :
    Calls Tryd.prog 19 #[ledV s l, ledV r m] w fun e w' => e = .returned (.bool (decide (l = m))) ∧ Below w.heap.size w w' := by
  have X := twoLed_new w s l vs r m us h1 h2
  unfold ledV
  obtain ⟨n1, n2, n3, n4, n5, n6, n7, n8⟩ := f1.len
  obtain ⟨m1, m2, m3, m4, m5, m6, m7, m8⟩ := f2.len
  have HL1 := Lib.hid (LedAt.len h1)
  have HL2 := Lib.hid (LedAt.len h2)
  have K1 := Lib.hid (fun W (X : TwoLed w W s l vs r m us) => equal_cur s.a1 r.a1 s.c1 r.c1 l.curs m.curs W (by omega) (by omega) X.one.at_.curs X.two.at_.curs)
  have K2 := Lib.hid (fun W (X : TwoLed w W s l vs r m us) => equal_und s.a2 r.a2 s.c2 r.c2 l.unders m.unders W (by omega) (by omega) X.one.at_.unders X.two.at_.unders)
  have K3 := Lib.hid (fun W (X : TwoLed w W s l vs r m us) => equal_ins s.a3 r.a3 s.c3 r.c3 l.instrs m.instrs W (by omega) (by omega) X.one.at_.instrs X.two.at_.instrs)
  have K5 := Lib.hid (fun W (X : TwoLed w W s l vs r m us) => equal_pos s.a5 r.a5 s.c5 r.c5 l.poss m.poss W (by omega) (by omega) X.one.at_.poss X.two.at_.poss)
  have K6 := Lib.hid (fun W (X : TwoLed w W s l vs r m us) => equal_ord s.a6 r.a6 s.c6 r.c6 l.orders m.orders W (by omega) (by omega) X.one.at_.orders X.two.at_.orders)
  have K7 := Lib.hid (fun W (X : TwoLed w W s l vs r m us) => equal_int s.a7 r.a7 s.c7 r.c7 l.avail m.avail W (by omega) (by omega) X.one.at_.avail X.two.at_.avail)
  have K8 := Lib.hid (fun W (X : TwoLed w W s l vs r m us) => equal_loc s.a8 r.a8 s.c8 r.c8 l.locs m.locs W (by omega) (by omega) X.one.at_.locs X.two.at_.locs)
  have K4 := Lib.hid (fun W (X : TwoLed w W s l vs r m us) => equalF_calls s.a4 r.a4 s.c4 r.c4 vs us W (by have := HL1.out; omega) (by have := HL2.out; omega) X.one.at_.accts X.two.at_.accts (cash_len f1 X.one.at_) (cash_len f2 X.two.at_))
  rw [HL1.out, HL2.out, h1.each, h2.each] at K4
  have HE := Lib.hid (led_eq l m)
  clear h1 h2 f1 f2 HL1 HL2
  generalize decide (l = m) = b at HE ⊢
  go_enter Tryd.func19, Tryd.ntmps19
  go_upto_region 1 with fail
  change Code.wp _ _ _ _ ((w.alloc (.cells #[.int .i64 l.day, .slice s.a1 l.curs.length s.c1, .slice s.a2 l.unders.length s.c2, .slice s.a3 l.instrs.length s.c3, .slice s.a4 l.accts.length s.c4, .slice s.a5 l.poss.length s.c5, .slice s.a6 l.orders.length s.c6, .slice s.a7 l.avail.length s.c7, .slice s.a8 l.locs.length s.c8] 37)).alloc (.cells #[.int .i64 m.day, .slice r.a1 m.curs.length r.c1, .slice r.a2 m.unders.length r.c2, .slice r.a3 m.instrs.length r.c3, .slice r.a4 m.accts.length r.c4, .slice r.a5 m.poss.length r.c5, .slice r.a6 m.orders.length r.c6, .slice r.a7 m.avail.length r.c7, .slice r.a8 m.locs.length r.c8] 37))
  generalize (w.alloc (.cells #[.int .i64 l.day, .slice s.a1 l.curs.length s.c1, .slice s.a2 l.unders.length s.c2, .slice s.a3 l.instrs.length s.c3, .slice s.a4 l.accts.length s.c4, .slice s.a5 l.poss.length s.c5, .slice s.a6 l.orders.length s.c6, .slice s.a7 l.avail.length s.c7, .slice s.a8 l.locs.length s.c8] 37)).alloc (.cells #[.int .i64 m.day, .slice r.a1 m.curs.length r.c1, .slice r.a2 m.unders.length r.c2, .slice r.a3 m.instrs.length r.c3, .slice r.a4 m.accts.length r.c4, .slice r.a5 m.poss.length r.c5, .slice r.a6 m.orders.length r.c6, .slice r.a7 m.avail.length r.c7, .slice r.a8 m.locs.length r.c8] 37) = w0 at *
  have XH := Lib.hid X
  have x0 := X.one.c0
  have y0 := X.two.c0
  have x1 := X.one.c1
  have y1 := X.two.c1
  clear X
  by_cases hd : l.day = m.day
  rotate_left
  · have hb : (l.day == m.day) = false := by simpa using hd
    have HX : Hid (b = false) := by unfold Hid; rw [HE.out, decide_eq_false hd]; simp
    clear hd HE
    go_wp2_with fail
    go_ret
    exact ⟨ret_bool HX.out.symm, XH.out.one.low⟩
  have hb : (l.day == m.day) = true := by simpa using hd
  have HD := Lib.hid (decide_eq_true hd)
  clear hd
  cases hq1 : decide (l.curs = m.curs) with
  | false =>
    rw [hq1] at K1
    have HX : Hid (b = false) := by unfold Hid; rw [HE.out, hq1]; simp
    clear hq1 HE
    go_wp2_with (first | (go_at_call 42; refine (K1.out _ XH.out).mono ?_; rintro e w1 ⟨rfl, hn⟩; have X1 := Lib.hid (XH.out.keep (bel_of hn)); clear hn; have x2 := X1.out.one.c2; have y2 := X1.out.two.c2) | fail)
    go_ret
    exact ⟨ret_bool HX.out.symm, X1.out.one.low⟩
  | true =>
  rw [hq1] at K1
  have HD1 := Lib.hid hq1
  clear hq1
  cases hq2 : decide (l.unders = m.unders) with
  | false =>
    rw [hq2] at K2
    have HX : Hid (b = false) := by unfold Hid; rw [HE.out, hq2]; simp
    clear hq2 HE
    go_wp2_with (first | (go_at_call 42; refine (K1.out _ XH.out).mono ?_; rintro e w1 ⟨rfl, hn⟩; have X1 := Lib.hid (XH.out.keep (bel_of hn)); clear hn; have x2 := X1.out.one.c2; have y2 := X1.out.two.c2) | (go_at_call 43; refine (K2.out _ X1.out).mono ?_; rintro e w2 ⟨rfl, hn⟩; have X2 := Lib.hid (X1.out.keep (bel_of hn)); clear hn; have x3 := X2.out.one.c3; have y3 := X2.out.two.c3) | fail)
    go_ret
    exact ⟨ret_bool HX.out.symm, X2.out.one.low⟩
  | true =>
  rw [hq2] at K2
  have HD2 := Lib.hid hq2
  clear hq2
  cases hq3 : decide (l.instrs = m.instrs) with
  | false =>
    rw [hq3] at K3
    have HX : Hid (b = false) := by unfold Hid; rw [HE.out, hq3]; simp
    clear hq3 HE
    go_wp2_with (first | (go_at_call 42; refine (K1.out _ XH.out).mono ?_; rintro e w1 ⟨rfl, hn⟩; have X1 := Lib.hid (XH.out.keep (bel_of hn)); clear hn; have x2 := X1.out.one.c2; have y2 := X1.out.two.c2) | (go_at_call 43; refine (K2.out _ X1.out).mono ?_; rintro e w2 ⟨rfl, hn⟩; have X2 := Lib.hid (X1.out.keep (bel_of hn)); clear hn; have x3 := X2.out.one.c3; have y3 := X2.out.two.c3) | (go_at_call 44; refine (K3.out _ X2.out).mono ?_; rintro e w3 ⟨rfl, hn⟩; have X3 := Lib.hid (X2.out.keep (bel_of hn)); clear hn; have x5 := X3.out.one.c5; have y5 := X3.out.two.c5) | fail)
    go_ret
    exact ⟨ret_bool HX.out.symm, X3.out.one.low⟩
  | true =>
  rw [hq3] at K3
  have HD3 := Lib.hid hq3
  clear hq3
  cases hq5 : decide (l.poss = m.poss) with
  | false =>
    rw [hq5] at K5
    have HX : Hid (b = false) := by unfold Hid; rw [HE.out, hq5]; simp
    clear hq5 HE
    go_wp2_with (first | (go_at_call 42; refine (K1.out _ XH.out).mono ?_; rintro e w1 ⟨rfl, hn⟩; have X1 := Lib.hid (XH.out.keep (bel_of hn)); clear hn; have x2 := X1.out.one.c2; have y2 := X1.out.two.c2) | (go_at_call 43; refine (K2.out _ X1.out).mono ?_; rintro e w2 ⟨rfl, hn⟩; have X2 := Lib.hid (X1.out.keep (bel_of hn)); clear hn; have x3 := X2.out.one.c3; have y3 := X2.out.two.c3) | (go_at_call 44; refine (K3.out _ X2.out).mono ?_; rintro e w3 ⟨rfl, hn⟩; have X3 := Lib.hid (X2.out.keep (bel_of hn)); clear hn; have x5 := X3.out.one.c5; have y5 := X3.out.two.c5) | (go_at_call 45; refine (K5.out _ X3.out).mono ?_; rintro e w5 ⟨rfl, hn⟩; have X5 := Lib.hid (X3.out.keep (bel_of hn)); clear hn; have x6 := X5.out.one.c6; have y6 := X5.out.two.c6) | fail)
    go_ret
    exact ⟨ret_bool HX.out.symm, X5.out.one.low⟩
  | true =>
  rw [hq5] at K5
  have HD5 := Lib.hid hq5
  clear hq5
  cases hq6 : decide (l.orders = m.orders) with
  | false =>
    rw [hq6] at K6
    have HX : Hid (b = false) := by unfold Hid; rw [HE.out, hq6]; simp
    clear hq6 HE
    go_wp2_with (first | (go_at_call 42; refine (K1.out _ XH.out).mono ?_; rintro e w1 ⟨rfl, hn⟩; have X1 := Lib.hid (XH.out.keep (bel_of hn)); clear hn; have x2 := X1.out.one.c2; have y2 := X1.out.two.c2) | (go_at_call 43; refine (K2.out _ X1.out).mono ?_; rintro e w2 ⟨rfl, hn⟩; have X2 := Lib.hid (X1.out.keep (bel_of hn)); clear hn; have x3 := X2.out.one.c3; have y3 := X2.out.two.c3) | (go_at_call 44; refine (K3.out _ X2.out).mono ?_; rintro e w3 ⟨rfl, hn⟩; have X3 := Lib.hid (X2.out.keep (bel_of hn)); clear hn; have x5 := X3.out.one.c5; have y5 := X3.out.two.c5) | (go_at_call 45; refine (K5.out _ X3.out).mono ?_; rintro e w5 ⟨rfl, hn⟩; have X5 := Lib.hid (X3.out.keep (bel_of hn)); clear hn; have x6 := X5.out.one.c6; have y6 := X5.out.two.c6) | (go_at_call 46; refine (K6.out _ X5.out).mono ?_; rintro e w6 ⟨rfl, hn⟩; have X6 := Lib.hid (X5.out.keep (bel_of hn)); clear hn; have x7 := X6.out.one.c7; have y7 := X6.out.two.c7) | fail)
    go_ret
    exact ⟨ret_bool HX.out.symm, X6.out.one.low⟩
  | true =>
  rw [hq6] at K6
  have HD6 := Lib.hid hq6
  clear hq6
  cases hq7 : decide (l.avail = m.avail) with
  | false =>
    rw [hq7] at K7
    have HX : Hid (b = false) := by unfold Hid; rw [HE.out, hq7]; simp
    clear hq7 HE
    go_wp2_with (first | (go_at_call 42; refine (K1.out _ XH.out).mono ?_; rintro e w1 ⟨rfl, hn⟩; have X1 := Lib.hid (XH.out.keep (bel_of hn)); clear hn; have x2 := X1.out.one.c2; have y2 := X1.out.two.c2) | (go_at_call 43; refine (K2.out _ X1.out).mono ?_; rintro e w2 ⟨rfl, hn⟩; have X2 := Lib.hid (X1.out.keep (bel_of hn)); clear hn; have x3 := X2.out.one.c3; have y3 := X2.out.two.c3) | (go_at_call 44; refine (K3.out _ X2.out).mono ?_; rintro e w3 ⟨rfl, hn⟩; have X3 := Lib.hid (X2.out.keep (bel_of hn)); clear hn; have x5 := X3.out.one.c5; have y5 := X3.out.two.c5) | (go_at_call 45; refine (K5.out _ X3.out).mono ?_; rintro e w5 ⟨rfl, hn⟩; have X5 := Lib.hid (X3.out.keep (bel_of hn)); clear hn; have x6 := X5.out.one.c6; have y6 := X5.out.two.c6) | (go_at_call 46; refine (K6.out _ X5.out).mono ?_; rintro e w6 ⟨rfl, hn⟩; have X6 := Lib.hid (X5.out.keep (bel_of hn)); clear hn; have x7 := X6.out.one.c7; have y7 := X6.out.two.c7) | (go_at_call 47; refine (K7.out _ X6.out).mono ?_; rintro e w7 ⟨rfl, hn⟩; have X7 := Lib.hid (X6.out.keep (bel_of hn)); clear hn; have x8 := X7.out.one.c8; have y8 := X7.out.two.c8) | fail)
    go_ret
    exact ⟨ret_bool HX.out.symm, X7.out.one.low⟩
  | true =>
  rw [hq7] at K7
  have HD7 := Lib.hid hq7
  clear hq7
  cases hq8 : decide (l.locs = m.locs) with
  | false =>
    rw [hq8] at K8
    have HX : Hid (b = false) := by unfold Hid; rw [HE.out, hq8]; simp
    clear hq8 HE
    go_wp2_with (first | (go_at_call 42; refine (K1.out _ XH.out).mono ?_; rintro e w1 ⟨rfl, hn⟩; have X1 := Lib.hid (XH.out.keep (bel_of hn)); clear hn; have x2 := X1.out.one.c2; have y2 := X1.out.two.c2) | (go_at_call 43; refine (K2.out _ X1.out).mono ?_; rintro e w2 ⟨rfl, hn⟩; have X2 := Lib.hid (X1.out.keep (bel_of hn)); clear hn; have x3 := X2.out.one.c3; have y3 := X2.out.two.c3) | (go_at_call 44; refine (K3.out _ X2.out).mono ?_; rintro e w3 ⟨rfl, hn⟩; have X3 := Lib.hid (X2.out.keep (bel_of hn)); clear hn; have x5 := X3.out.one.c5; have y5 := X3.out.two.c5) | (go_at_call 45; refine (K5.out _ X3.out).mono ?_; rintro e w5 ⟨rfl, hn⟩; have X5 := Lib.hid (X3.out.keep (bel_of hn)); clear hn; have x6 := X5.out.one.c6; have y6 := X5.out.two.c6) | (go_at_call 46; refine (K6.out _ X5.out).mono ?_; rintro e w6 ⟨rfl, hn⟩; have X6 := Lib.hid (X5.out.keep (bel_of hn)); clear hn; have x7 := X6.out.one.c7; have y7 := X6.out.two.c7) | (go_at_call 47; refine (K7.out _ X6.out).mono ?_; rintro e w7 ⟨rfl, hn⟩; have X7 := Lib.hid (X6.out.keep (bel_of hn)); clear hn; have x8 := X7.out.one.c8; have y8 := X7.out.two.c8) | (go_at_call 48; refine (K8.out _ X7.out).mono ?_; rintro e w8 ⟨rfl, hn⟩; have X8 := Lib.hid (X7.out.keep (bel_of hn)); clear hn; have x4 := X8.out.one.c4; have y4 := X8.out.two.c4) | fail)
    go_ret
    exact ⟨ret_bool HX.out.symm, X8.out.one.low⟩
  | true =>
  rw [hq8] at K8
  have HD8 := Lib.hid hq8
  clear hq8
  cases hq4 : decide (l.accts = m.accts) with
  | false =>
    rw [hq4] at K4
    have HX : Hid (b = false) := by unfold Hid; rw [HE.out, hq4]; simp
    clear hq4 HE
    go_wp2_with (first | (go_at_call 42; refine (K1.out _ XH.out).mono ?_; rintro e w1 ⟨rfl, hn⟩; have X1 := Lib.hid (XH.out.keep (bel_of hn)); clear hn; have x2 := X1.out.one.c2; have y2 := X1.out.two.c2) | (go_at_call 43; refine (K2.out _ X1.out).mono ?_; rintro e w2 ⟨rfl, hn⟩; have X2 := Lib.hid (X1.out.keep (bel_of hn)); clear hn; have x3 := X2.out.one.c3; have y3 := X2.out.two.c3) | (go_at_call 44; refine (K3.out _ X2.out).mono ?_; rintro e w3 ⟨rfl, hn⟩; have X3 := Lib.hid (X2.out.keep (bel_of hn)); clear hn; have x5 := X3.out.one.c5; have y5 := X3.out.two.c5) | (go_at_call 45; refine (K5.out _ X3.out).mono ?_; rintro e w5 ⟨rfl, hn⟩; have X5 := Lib.hid (X3.out.keep (bel_of hn)); clear hn; have x6 := X5.out.one.c6; have y6 := X5.out.two.c6) | (go_at_call 46; refine (K6.out _ X5.out).mono ?_; rintro e w6 ⟨rfl, hn⟩; have X6 := Lib.hid (X5.out.keep (bel_of hn)); clear hn; have x7 := X6.out.one.c7; have y7 := X6.out.two.c7) | (go_at_call 47; refine (K7.out _ X6.out).mono ?_; rintro e w7 ⟨rfl, hn⟩; have X7 := Lib.hid (X6.out.keep (bel_of hn)); clear hn; have x8 := X7.out.one.c8; have y8 := X7.out.two.c8) | (go_at_call 48; refine (K8.out _ X7.out).mono ?_; rintro e w8 ⟨rfl, hn⟩; have X8 := Lib.hid (X7.out.keep (bel_of hn)); clear hn; have x4 := X8.out.one.c4; have y4 := X8.out.two.c4) | (go_at_call 49; refine (K4.out _ X8.out).mono ?_; rintro e w4 ⟨rfl, b4⟩; have X4 := Lib.hid (X8.out.keep b4)) | fail)
    go_ret
    exact ⟨ret_bool HX.out.symm, X4.out.one.low⟩
  | true =>
  rw [hq4] at K4
  have HD4 := Lib.hid hq4
  clear hq4
  have HX : Hid (b = true) := by unfold Hid; rw [HE.out, HD.out, HD1.out, HD2.out, HD3.out, HD5.out, HD6.out, HD7.out, HD8.out, HD4.out]; rfl
  clear HE
  go_wp2_with (first | (go_at_call 42; refine (K1.out _ XH.out).mono ?_; rintro e w1 ⟨rfl, hn⟩; have X1 := Lib.hid (XH.out.keep (bel_of hn)); clear hn; have x2 := X1.out.one.c2; have y2 := X1.out.two.c2) | (go_at_call 43; refine (K2.out _ X1.out).mono ?_; rintro e w2 ⟨rfl, hn⟩; have X2 := Lib.hid (X1.out.keep (bel_of hn)); clear hn; have x3 := X2.out.one.c3; have y3 := X2.out.two.c3) | (go_at_call 44; refine (K3.out _ X2.out).mono ?_; rintro e w3 ⟨rfl, hn⟩; have X3 := Lib.hid (X2.out.keep (bel_of hn)); clear hn; have x5 := X3.out.one.c5; have y5 := X3.out.two.c5) | (go_at_call 45; refine (K5.out _ X3.out).mono ?_; rintro e w5 ⟨rfl, hn⟩; have X5 := Lib.hid (X3.out.keep (bel_of hn)); clear hn; have x6 := X5.out.one.c6; have y6 := X5.out.two.c6) | (go_at_call 46; refine (K6.out _ X5.out).mono ?_; rintro e w6 ⟨rfl, hn⟩; have X6 := Lib.hid (X5.out.keep (bel_of hn)); clear hn; have x7 := X6.out.one.c7; have y7 := X6.out.two.c7) | (go_at_call 47; refine (K7.out _ X6.out).mono ?_; rintro e w7 ⟨rfl, hn⟩; have X7 := Lib.hid (X6.out.keep (bel_of hn)); clear hn; have x8 := X7.out.one.c8; have y8 := X7.out.two.c8) | (go_at_call 48; refine (K8.out _ X7.out).mono ?_; rintro e w8 ⟨rfl, hn⟩; have X8 := Lib.hid (X7.out.keep (bel_of hn)); clear hn; have x4 := X8.out.one.c4; have y4 := X8.out.two.c4) | (go_at_call 49; refine (K4.out _ X8.out).mono ?_; rintro e w4 ⟨rfl, b4⟩; have X4 := Lib.hid (X8.out.keep b4)) | fail)
  go_ret
  exact ⟨ret_bool HX.out.symm, X4.out.one.low⟩
end Go.Proofs.YtmimhimlgbklpaaDoor.LedW
namespace Go.Proofs.YtmimhimlgbklpaaDoor.LedW
open Go.RowKit Go.Proofs.YtmimhimlgbklpaaDoor.Bas Go.Proofs.YtmimhimlgbklpaaDoor.LedM

theorem drew_heap (w : World) : w.drew.heap = w.heap := rfl
theorem TwoLed.drewN {w A : World} {s : Lists} {l : Led} {vs : List (Value × Acc)} {r : Lists} {m : Led} {us : List (Value × Acc)} (h : TwoLed w A s l vs r m us) (n : Nat) : TwoLed w (A.drewN n) s l vs r m us := ⟨h.one.drewN n, h.two.drewN n⟩
theorem TwoLed.drew {w A : World} {s : Lists} {l : Led} {vs : List (Value × Acc)} {r : Lists} {m : Led} {us : List (Value × Acc)} (h : TwoLed w A s l vs r m us) : TwoLed w A.drew s l vs r m us := ⟨h.one.drew, h.two.drew⟩
section
variable {w W : World} {g : Nat} {s : Lists} {l : Led} {vs : List (Value × Acc)} {b off k : Nat} {x : Value × Acc}
theorem led_c4 (h : LedH w W g s l vs) (ha : s.a4 = some ⟨b, off, none⟩) : W.cell? ⟨g, 4, none⟩ = some (.slice (some ⟨b, off, none⟩) l.accts.length s.c4) := ha ▸ h.c4
theorem acc_c (h : LedH w W g s l vs) (ha : s.a4 = some ⟨b, off, none⟩) (hk : k < vs.length) (hx : vs[k] = x) (c : Nat) (u : Value) (hu : (accC x)[c]? = some u) : W.cell? ⟨b, off + k * 4 + c, none⟩ = some u := by
  obtain ⟨b', off', h1, h2⟩ := rec_at len_acc (by decide) h.at_.accts hk
  rw [ha] at h1
  cases h1
  rw [hx] at h2
  rw [Nat.add_assoc]
  exact h2 c u hu
theorem acc_c0 (h : LedH w W g s l vs) (ha : s.a4 = some ⟨b, off, none⟩) (hk : k < vs.length) (hx : vs[k] = x) : W.cell? ⟨b, off + k * 4, none⟩ = some (.int .i64 x.2.parent) := acc_c h ha hk hx 0 _ rfl
theorem acc_c1 (h : LedH w W g s l vs) (ha : s.a4 = some ⟨b, off, none⟩) (hk : k < vs.length) (hx : vs[k] = x) : W.cell? ⟨b, off + k * 4 + 1, none⟩ = some x.1 := acc_c h ha hk hx 1 _ rfl
theorem acc_c2 (h : LedH w W g s l vs) (ha : s.a4 = some ⟨b, off, none⟩) (hk : k < vs.length) (hx : vs[k] = x) : W.cell? ⟨b, off + k * 4 + 2, none⟩ = some (.bool x.2.flag) := acc_c h ha hk hx 2 _ rfl
theorem acc_c3 (h : LedH w W g s l vs) (ha : s.a4 = some ⟨b, off, none⟩) (hk : k < vs.length) (hx : vs[k] = x) : W.cell? ⟨b, off + k * 4 + 3, none⟩ = some (.int .i64 x.2.last) := acc_c h ha hk hx 3 _ rfl
end
theorem fill4_box {W : World} {g : Nat} {t : TypeId} {z0 z1 z2 z3 : Value} (hb : Box W g t #[z0, z1, z2, z3]) (v0 v1 v2 v3 : Value) : Box ((((W.setCell ⟨g, 0, none⟩ v0).setCell ⟨g, 1, none⟩ v1).setCell ⟨g, 2, none⟩ v2).setCell ⟨g, 3, none⟩ v3) g t #[v0, v1, v2, v3] := by
  have := (((hb.set 0 v0).set 1 v1).set 2 v2).set 3 v3
  simpa using this
theorem fill4_far {W : World} {g g' : Nat} {t : TypeId} {cs : Array Value} (hb : Box W g' t cs) (hne : g' ≠ g) (v0 v1 v2 v3 : Value) : Box ((((W.setCell ⟨g, 0, none⟩ v0).setCell ⟨g, 1, none⟩ v1).setCell ⟨g, 2, none⟩ v2).setCell ⟨g, 3, none⟩ v3) g' t cs :=
  (((hb.far (p := ⟨g, 0, none⟩) hne v0).far (p := ⟨g, 1, none⟩) hne v1).far (p := ⟨g, 2, none⟩) hne v2).far (p := ⟨g, 3, none⟩) hne v3
theorem fill4_low {n : Nat} {w W : World} (h : Below n w W) {g : Nat} (hg : n ≤ g) (v0 v1 v2 v3 : Value) : Below n w ((((W.setCell ⟨g, 0, none⟩ v0).setCell ⟨g, 1, none⟩ v1).setCell ⟨g, 2, none⟩ v2).setCell ⟨g, 3, none⟩ v3) :=
  (((h.setCell (p := ⟨g, 0, none⟩) hg v0).setCell (p := ⟨g, 1, none⟩) hg v1).setCell (p := ⟨g, 2, none⟩) hg v2).setCell (p := ⟨g, 3, none⟩) hg v3
set_option maxHeartbeats 8000000 in
set_option maxRecDepth 100000 in
theorem rsame_calls (s : Lists) (l : Led) (vs : List (Value × Acc)) (r : Lists) (m : Led) (us : List (Value × Acc)) (w : World) (h1 : LedAt w s l vs) (h2 : LedAt w r m us) (f1 : LedFit l) (f2 : LedFit m) :
    Calls Tryd.prog 14 #[ledV s l, ledV r m] w fun e w' => e = .returned (.bool (decide (l = m))) ∧ Below w.heap.size w w' := by
  have X := twoLed_new w s l vs r m us h1 h2
  unfold ledV
  obtain ⟨n1, n2, n3, n4, n5, n6, n7, n8⟩ := f1.len
  obtain ⟨m1, m2, m3, m4, m5, m6, m7, m8⟩ := f2.len
  have HV1 := Lib.hid (LedAt.len h1)
  have HV2 := Lib.hid (LedAt.len h2)
  have HC1 := Lib.hid (fun W (X : TwoLed w W s l vs r m us) => cash_len f1 X.one.at_)
  have HC2 := Lib.hid (fun W (X : TwoLed w W s l vs r m us) => cash_len f2 X.two.at_)
  have HE1 := Lib.hid h1.each
  have HE2 := Lib.hid h2.each
  have K5 := Lib.hid (fun W (X : TwoLed w W s l vs r m us) => rsame_pos s.a5 r.a5 s.c5 r.c5 l.poss m.poss W (by omega) (by omega) X.one.at_.poss X.two.at_.poss)
  have K6 := Lib.hid (fun W (X : TwoLed w W s l vs r m us) => rsame_ord s.a6 r.a6 s.c6 r.c6 l.orders m.orders W (by omega) (by omega) X.one.at_.orders X.two.at_.orders)
  have K7 := Lib.hid (fun W (X : TwoLed w W s l vs r m us) => rsame_int s.a7 r.a7 s.c7 r.c7 l.avail m.avail W (by omega) (by omega) X.one.at_.avail X.two.at_.avail)
  have K8 := Lib.hid (fun W (X : TwoLed w W s l vs r m us) => rsame_loc s.a8 r.a8 s.c8 r.c8 l.locs m.locs W (by omega) (by omega) X.one.at_.locs X.two.at_.locs)
  have HE := Lib.hid (led_eq l m)
  clear h1 h2 f1 f2
  generalize decide (l = m) = b at HE ⊢
  go_enter Tryd.func14, Tryd.ntmps14
  go_upto_region 1 with fail
  change Code.wp _ _ _ _ ((w.alloc (.cells #[.int .i64 l.day, .slice s.a1 l.curs.length s.c1, .slice s.a2 l.unders.length s.c2, .slice s.a3 l.instrs.length s.c3, .slice s.a4 l.accts.length s.c4, .slice s.a5 l.poss.length s.c5, .slice s.a6 l.orders.length s.c6, .slice s.a7 l.avail.length s.c7, .slice s.a8 l.locs.length s.c8] 37)).alloc (.cells #[.int .i64 m.day, .slice r.a1 m.curs.length r.c1, .slice r.a2 m.unders.length r.c2, .slice r.a3 m.instrs.length r.c3, .slice r.a4 m.accts.length r.c4, .slice r.a5 m.poss.length r.c5, .slice r.a6 m.orders.length r.c6, .slice r.a7 m.avail.length r.c7, .slice r.a8 m.locs.length r.c8] 37))
  generalize (w.alloc (.cells #[.int .i64 l.day, .slice s.a1 l.curs.length s.c1, .slice s.a2 l.unders.length s.c2, .slice s.a3 l.instrs.length s.c3, .slice s.a4 l.accts.length s.c4, .slice s.a5 l.poss.length s.c5, .slice s.a6 l.orders.length s.c6, .slice s.a7 l.avail.length s.c7, .slice s.a8 l.locs.length s.c8] 37)).alloc (.cells #[.int .i64 m.day, .slice r.a1 m.curs.length r.c1, .slice r.a2 m.unders.length r.c2, .slice r.a3 m.instrs.length r.c3, .slice r.a4 m.accts.length r.c4, .slice r.a5 m.poss.length r.c5, .slice r.a6 m.orders.length r.c6, .slice r.a7 m.avail.length r.c7, .slice r.a8 m.locs.length r.c8] 37) = w0 at *
  have x0 := X.one.c0
  have y0 := X.two.c0
  have x1 := X.one.c1
  have y1 := X.two.c1
  have x2 := X.one.c2
  have y2 := X.two.c2
  have x3 := X.one.c3
  have y3 := X.two.c3
  have x4 := X.one.c4
  have y4 := X.two.c4
  have XH := Lib.hid X
  clear X
  by_cases hd : l.day = m.day
  rotate_left
  · have hb : (l.day != m.day) = true := by simpa using hd
    have HX : Hid (b = false) := by unfold Hid; rw [HE.out, decide_eq_false hd]; simp
    clear hd HE
    go_wp2_with fail
    go_ret
    exact ⟨ret_bool HX.out.symm, XH.out.one.low⟩
  have hb : (l.day != m.day) = false := by simpa using hd
  have HD := Lib.hid (decide_eq_true hd)
  clear hd
  by_cases hl1 : l.curs.length = m.curs.length
  rotate_left
  · have hb1 : ((l.curs.length : Int) != (m.curs.length : Int)) = true := by simp; omega
    have HX : Hid (b = false) := by unfold Hid; rw [HE.out, decide_eq_false (fun h : l.curs = m.curs => hl1 (by rw [h]))]; simp
    clear hl1 HE
    go_wp2_with fail
    go_ret
    exact ⟨ret_bool HX.out.symm, XH.out.one.low⟩
  have hb1 : ((l.curs.length : Int) != (m.curs.length : Int)) = false := by simp [hl1]
  have HL1 := Lib.hid hl1
  clear hl1
  by_cases hl2 : l.unders.length = m.unders.length
  rotate_left
  · have hb2 : ((l.unders.length : Int) != (m.unders.length : Int)) = true := by simp; omega
    have HX : Hid (b = false) := by unfold Hid; rw [HE.out, decide_eq_false (fun h : l.unders = m.unders => hl2 (by rw [h]))]; simp
    clear hl2 HE
    go_wp2_with fail
    go_ret
    exact ⟨ret_bool HX.out.symm, XH.out.one.low⟩
  have hb2 : ((l.unders.length : Int) != (m.unders.length : Int)) = false := by simp [hl2]
  have HL2 := Lib.hid hl2
  clear hl2
  by_cases hl3 : l.instrs.length = m.instrs.length
  rotate_left
  · have hb3 : ((l.instrs.length : Int) != (m.instrs.length : Int)) = true := by simp; omega
    have HX : Hid (b = false) := by unfold Hid; rw [HE.out, decide_eq_false (fun h : l.instrs = m.instrs => hl3 (by rw [h]))]; simp
    clear hl3 HE
    go_wp2_with fail
    go_ret
    exact ⟨ret_bool HX.out.symm, XH.out.one.low⟩
  have hb3 : ((l.instrs.length : Int) != (m.instrs.length : Int)) = false := by simp [hl3]
  have HL3 := Lib.hid hl3
  clear hl3
  by_cases hl4 : l.accts.length = m.accts.length
  rotate_left
  · have hb4 : ((l.accts.length : Int) != (m.accts.length : Int)) = true := by simp; omega
    have HX : Hid (b = false) := by unfold Hid; rw [HE.out, decide_eq_false (fun h : l.accts = m.accts => hl4 (by rw [h]))]; simp
    clear hl4 HE
    go_wp2_with fail
    go_ret
    exact ⟨ret_bool HX.out.symm, XH.out.one.low⟩
  have hb4 : ((l.accts.length : Int) != (m.accts.length : Int)) = false := by simp [hl4]
  have HL4 := Lib.hid hl4
  clear hl4
  go_wp2_with fail
  clear x0 y0 x1 y1 x2 y2 x3 y3 x4 y4
  go_loopw [55] (fun i wr => ∃ k : Nat, k ≤ l.curs.length ∧ i = .int .i64 k ∧ TwoLed w wr s l vs r m us ∧ Hid (l.curs.take k = m.curs.take k)) (fun i _ => l.curs.length - (intOf i).toNat)
  case atStart => exact ⟨0, by omega, rfl, XH.out, by simp [Hid]⟩
  case round =>
    clear XH
    obtain ⟨k, hk, rfl, X, H⟩ := hrel
    by_cases hlt : k < l.curs.length
    · have hlt2 : k < m.curs.length := by have := HL1.out; omega
      obtain ⟨b1, off1, ha1, C1⟩ := rec_at len_cur (by decide) X.one.at_.curs hlt
      obtain ⟨b2, off2, ha2, C2⟩ := rec_at len_cur (by decide) X.two.at_.curs hlt2
      have e1 := X.one.c1
      have e2 := X.two.c1
      rw [ha1] at e1
      rw [ha2] at e2
      clear ha1 ha2
      have hm := take_eq_succ l.curs m.curs k hlt hlt2
      generalize hxk : l.curs[k] = x at *
      generalize hyk : m.curs[k] = y at *
      have HXK := Lib.hid hxk
      have HYK := Lib.hid hyk
      have XH := Lib.hid X
      clear hxk hyk X
      obtain ⟨x0, x1⟩ := x
      obtain ⟨y0, y1⟩ := y
      have c0 := C1 0 _ rfl
      have c1 := C1 1 _ rfl
      have d0 := C2 0 _ rfl
      have d1 := C2 1 _ rfl
      clear C1 C2
      simp only [← Nat.add_assoc, Nat.add_zero] at c0 c1 d0 d1
      by_cases he : ((x0, x1) : (Int × Int)) = (y0, y1)
      · have HI : Hid (l.curs.take (k + 1) = m.curs.take (k + 1)) := hm.2 ⟨H.out, he⟩
        cases he
        have hq := fun W => neq_cur W x0 x1 x0 x1
        simp only [beq_self_eq_true, Bool.and_self, Bool.not_true] at hq
        clear hm H
        go_wp2_with fail
        go_quiet (fail)
        all_goals
          go_wp2_with fail
          go_roundw
          case rel => exact ⟨k + 1, by omega, by go_num, by first | exact XH.out.drewN _ | exact XH.out.drew, HI⟩
          case measure => simp [intOf]; omega
      · have HN : l.curs ≠ m.curs := fun h => he (HXK.out.symm.trans ((by simp only [h] : l.curs[k] = m.curs[k]).trans HYK.out))
        have HX : Hid (b = false) := by unfold Hid; rw [HE.out, decide_eq_false HN]; simp
        have heb : (!((x0 == y0) && (x1 == y1))) = true := by
          rw [Bool.not_eq_true', Bool.eq_false_iff]
          intro h
          simp only [Bool.and_eq_true, beq_iff_eq] at h
          exact he (by simp [h])
        have hq := fun W => neq_cur W x0 x1 y0 y1
        rw [heb] at hq
        clear hm H heb he HN HE
        go_wp2_with fail
        go_quiet (fail)
        all_goals
          go_wp2_with fail
          go_ret
          exact ⟨ret_bool HX.out.symm, by first | exact below_drewN XH.out.one.low _ | exact XH.out.one.low.drew⟩
    · have hkk : k = l.curs.length := by omega
      subst hkk
      have HI1 : Hid (decide (l.curs = m.curs) = true) := by
        have := H.out
        rw [List.take_length, HL1.out, List.take_length] at this
        exact decide_eq_true this
      clear H
      have x2 := X.one.c2
      have y2 := X.two.c2
      have XH1 := Lib.hid X
      clear X
      go_wp2_with fail
      clear x2 y2
      go_loopw [73] (fun i wr => ∃ k : Nat, k ≤ l.unders.length ∧ i = .int .i64 k ∧ TwoLed w wr s l vs r m us ∧ Hid (l.unders.take k = m.unders.take k)) (fun i _ => l.unders.length - (intOf i).toNat)
      case atStart => exact ⟨0, by omega, rfl, XH1.out, by simp [Hid]⟩
      case round =>
        clear XH1
        obtain ⟨k, hk, rfl, X, H⟩ := hrel
        by_cases hlt : k < l.unders.length
        · have hlt2 : k < m.unders.length := by have := HL2.out; omega
          obtain ⟨b1, off1, ha1, C1⟩ := rec_at len_und (by decide) X.one.at_.unders hlt
          obtain ⟨b2, off2, ha2, C2⟩ := rec_at len_und (by decide) X.two.at_.unders hlt2
          have e1 := X.one.c2
          have e2 := X.two.c2
          rw [ha1] at e1
          rw [ha2] at e2
          clear ha1 ha2
          have hm := take_eq_succ l.unders m.unders k hlt hlt2
          generalize hxk : l.unders[k] = x at *
          generalize hyk : m.unders[k] = y at *
          have HXK := Lib.hid hxk
          have HYK := Lib.hid hyk
          have XH := Lib.hid X
          clear hxk hyk X
          obtain ⟨x0, x1, x2, x3⟩ := x
          obtain ⟨y0, y1, y2, y3⟩ := y
          have c0 := C1 0 _ rfl
          have c1 := C1 1 _ rfl
          have c2 := C1 2 _ rfl
          have c3 := C1 3 _ rfl
          have d0 := C2 0 _ rfl
          have d1 := C2 1 _ rfl
          have d2 := C2 2 _ rfl
          have d3 := C2 3 _ rfl
          clear C1 C2
          simp only [← Nat.add_assoc, Nat.add_zero] at c0 c1 c2 c3 d0 d1 d2 d3
          by_cases he : (⟨x0, x1, x2, x3⟩ : Und) = ⟨y0, y1, y2, y3⟩
          · have HI : Hid (l.unders.take (k + 1) = m.unders.take (k + 1)) := hm.2 ⟨H.out, he⟩
            cases he
            have hq := fun W => neq_und W x0 x1 x2 x3 x0 x1 x2 x3
            simp only [beq_self_eq_true, Bool.and_self, Bool.not_true] at hq
            clear hm H
            go_wp2_with fail
            go_quiet (fail)
            all_goals
              go_wp2_with fail
              go_roundw
              case rel => exact ⟨k + 1, by omega, by go_num, by first | exact XH.out.drewN _ | exact XH.out.drew, HI⟩
              case measure => simp [intOf]; omega
          · have HN : l.unders ≠ m.unders := fun h => he (HXK.out.symm.trans ((by simp only [h] : l.unders[k] = m.unders[k]).trans HYK.out))
            have HX : Hid (b = false) := by unfold Hid; rw [HE.out, decide_eq_false HN]; simp
            have heb : (!((x0 == y0) && (x1 == y1) && (x2 == y2) && (x3 == y3))) = true := by
              rw [Bool.not_eq_true', Bool.eq_false_iff]
              intro h
              simp only [Bool.and_eq_true, beq_iff_eq] at h
              exact he (by simp [h])
            have hq := fun W => neq_und W x0 x1 x2 x3 y0 y1 y2 y3
            rw [heb] at hq
            clear hm H heb he HN HE
            go_wp2_with fail
            go_quiet (fail)
            all_goals
              go_wp2_with fail
              go_ret
              exact ⟨ret_bool HX.out.symm, by first | exact below_drewN XH.out.one.low _ | exact XH.out.one.low.drew⟩
        · have hkk : k = l.unders.length := by omega
          subst hkk
          have HI2 : Hid (decide (l.unders = m.unders) = true) := by
            have := H.out
            rw [List.take_length, HL2.out, List.take_length] at this
            exact decide_eq_true this
          clear H
          have x3 := X.one.c3
          have y3 := X.two.c3
          have XH2 := Lib.hid X
          clear X
          go_wp2_with fail
          clear x3 y3
          go_loopw [91] (fun i wr => ∃ k : Nat, k ≤ l.instrs.length ∧ i = .int .i64 k ∧ TwoLed w wr s l vs r m us ∧ Hid (l.instrs.take k = m.instrs.take k)) (fun i _ => l.instrs.length - (intOf i).toNat)
          case atStart => exact ⟨0, by omega, rfl, XH2.out, by simp [Hid]⟩
          case round =>
            clear XH2
            obtain ⟨k, hk, rfl, X, H⟩ := hrel
            by_cases hlt : k < l.instrs.length
            · have hlt2 : k < m.instrs.length := by have := HL3.out; omega
              obtain ⟨b1, off1, ha1, C1⟩ := rec_at len_ins (by decide) X.one.at_.instrs hlt
              obtain ⟨b2, off2, ha2, C2⟩ := rec_at len_ins (by decide) X.two.at_.instrs hlt2
              have e1 := X.one.c3
              have e2 := X.two.c3
              rw [ha1] at e1
              rw [ha2] at e2
              clear ha1 ha2
              have hm := take_eq_succ l.instrs m.instrs k hlt hlt2
              generalize hxk : l.instrs[k] = x at *
              generalize hyk : m.instrs[k] = y at *
              have HXK := Lib.hid hxk
              have HYK := Lib.hid hyk
              have XH := Lib.hid X
              clear hxk hyk X
              obtain ⟨x0, x1, x2, x3, x4, x5, x6⟩ := x
              obtain ⟨y0, y1, y2, y3, y4, y5, y6⟩ := y
              have c0 := C1 0 _ rfl
              have c1 := C1 1 _ rfl
              have c2 := C1 2 _ rfl
              have c3 := C1 3 _ rfl
              have c4 := C1 4 _ rfl
              have c5 := C1 5 _ rfl
              have c6 := C1 6 _ rfl
              have d0 := C2 0 _ rfl
              have d1 := C2 1 _ rfl
              have d2 := C2 2 _ rfl
              have d3 := C2 3 _ rfl
              have d4 := C2 4 _ rfl
              have d5 := C2 5 _ rfl
              have d6 := C2 6 _ rfl
              clear C1 C2
              simp only [← Nat.add_assoc, Nat.add_zero] at c0 c1 c2 c3 c4 c5 c6 d0 d1 d2 d3 d4 d5 d6
              by_cases he : (⟨x0, x1, x2, x3, x4, x5, x6⟩ : Ins) = ⟨y0, y1, y2, y3, y4, y5, y6⟩
              · have HI : Hid (l.instrs.take (k + 1) = m.instrs.take (k + 1)) := hm.2 ⟨H.out, he⟩
                cases he
                have hq := fun W => neq_ins W x0 x1 x2 x3 x4 x5 x6 x0 x1 x2 x3 x4 x5 x6
                simp only [beq_self_eq_true, Bool.and_self, Bool.not_true] at hq
                clear hm H
                go_wp2_with fail
                go_quiet (fail)
                all_goals
                  go_wp2_with fail
                  go_roundw
                  case rel => exact ⟨k + 1, by omega, by go_num, by first | exact XH.out.drewN _ | exact XH.out.drew, HI⟩
                  case measure => simp [intOf]; omega
              · have HN : l.instrs ≠ m.instrs := fun h => he (HXK.out.symm.trans ((by simp only [h] : l.instrs[k] = m.instrs[k]).trans HYK.out))
                have HX : Hid (b = false) := by unfold Hid; rw [HE.out, decide_eq_false HN]; simp
                have heb : (!((x0 == y0) && (x1 == y1) && (x2 == y2) && (x3 == y3) && (x4 == y4) && (x5 == y5) && (x6 == y6))) = true := by
                  rw [Bool.not_eq_true', Bool.eq_false_iff]
                  intro h
                  simp only [Bool.and_eq_true, beq_iff_eq] at h
                  exact he (by simp [h])
                have hq := fun W => neq_ins W x0 x1 x2 x3 x4 x5 x6 y0 y1 y2 y3 y4 y5 y6
                rw [heb] at hq
                clear hm H heb he HN HE
                go_wp2_with fail
                go_quiet (fail)
                all_goals
                  go_wp2_with fail
                  go_ret
                  exact ⟨ret_bool HX.out.symm, by first | exact below_drewN XH.out.one.low _ | exact XH.out.one.low.drew⟩
            · have hkk : k = l.instrs.length := by omega
              subst hkk
              have HI3 : Hid (decide (l.instrs = m.instrs) = true) := by
                have := H.out
                rw [List.take_length, HL3.out, List.take_length] at this
                exact decide_eq_true this
              clear H
              have x4 := X.one.c4
              have y4 := X.two.c4
              have XH3 := Lib.hid X
              clear X
              go_wp2_with fail
              clear x4 y4
              go_loopw [109] (fun i wr => ∃ k : Nat, k ≤ l.accts.length ∧ i = .int .i64 k ∧ TwoLed w wr s l vs r m us ∧ Hid (l.accts.take k = m.accts.take k)) (fun i _ => l.accts.length - (intOf i).toNat)
              case atStart => exact ⟨0, by omega, rfl, XH3.out, by simp [Hid]⟩
              case round =>
                clear XH3
                obtain ⟨k, hk, rfl, X, H⟩ := hrel
                by_cases hlt : k < l.accts.length
                · have hlt2 : k < m.accts.length := by have := HL4.out; omega
                  have hlv : k < vs.length := by rw [HV1.out]; exact hlt
                  have hlu : k < us.length := by rw [HV2.out]; exact hlt2
                  obtain ⟨b1, off1, ha1, _⟩ := rec_at len_acc (by decide) X.one.at_.accts hlv
                  obtain ⟨b2, off2, ha2, _⟩ := rec_at len_acc (by decide) X.two.at_.accts hlu
                  have hm := take_eq_succ l.accts m.accts k hlt hlt2
                  have hcx := HC1.out _ X _ (List.getElem_mem hlv)
                  have hcy := HC2.out _ X _ (List.getElem_mem hlu)
                  have ex : vs[k].2 = l.accts[k] := LedAt.acc X.one.at_ hlv hlt
                  have ey : us[k].2 = m.accts[k] := LedAt.acc X.two.at_ hlu hlt2
                  have HXK : Hid (l.accts = m.accts → vs[k].2 = us[k].2) := fun h => by rw [ex, ey]; simp only [h]
                  rw [← ex, ← ey] at hm
                  clear ex ey
                  generalize hxk : vs[k] = x at *
                  generalize hyk : us[k] = y at *
                  obtain ⟨xv, x0, x1, x2, x3⟩ := x
                  obtain ⟨yv, y0, y1, y2, y3⟩ := y
                  obtain ⟨⟨ca, cc, hxv, _, hca⟩, bx⟩ := hcx
                  obtain ⟨⟨cb, cd, hyv, _, hcb⟩, by_⟩ := hcy
                  simp only at hxv hyv hca hcb bx by_ hm HXK
                  subst hxv hyv
                  have HX1 := Lib.hid hxk
                  have HU1 := Lib.hid hyk
                  have HA1 := Lib.hid ha1
                  have HA2 := Lib.hid ha2
                  have HM := Lib.hid hm
                  have HCA := Lib.hid hca
                  have HCB := Lib.hid hcb
                  have XH := Lib.hid X
                  clear hxk hyk ha1 ha2 hm hca hcb X
                  go_upto_region 24 with fail
                  refine stage_region 13 (fun W => W.cell? ⟨w.heap.size, 4, none⟩ = some (.slice (some ⟨b1, off1, none⟩) l.accts.length s.c4) ∧ W.cell? ⟨b1, off1 + k * 4, none⟩ = some (.int .i64 x0) ∧ W.cell? ⟨b1, off1 + k * 4 + 1, none⟩ = some (.slice ca x1.length cc) ∧ W.cell? ⟨b1, off1 + k * 4 + 2, none⟩ = some (.bool x2) ∧ W.cell? ⟨b1, off1 + k * 4 + 3, none⟩ = some (.int .i64 x3) ∧ W.cell? ⟨w.heap.size + 1, 4, none⟩ = some (.slice (some ⟨b2, off2, none⟩) m.accts.length r.c4) ∧ W.cell? ⟨b2, off2 + k * 4, none⟩ = some (.int .i64 y0) ∧ W.cell? ⟨b2, off2 + k * 4 + 1, none⟩ = some (.slice cb y1.length cd) ∧ W.cell? ⟨b2, off2 + k * 4 + 2, none⟩ = some (.bool y2) ∧ W.cell? ⟨b2, off2 + k * 4 + 3, none⟩ = some (.int .i64 y3) ∧ TwoLed w W s l vs r m us) (by kernel_rfl) ?_
                  have HS := XH.out.drew
                  refine' stage_take (i := 0) _ rfl (by kernel_rfl) (by kernel_rfl) (by kernel_rfl) (by kernel_rfl) (fun _ _ _ h => h) ⟨led_c4 HS.one HA1.out, acc_c0 HS.one HA1.out hlv HX1.out, acc_c1 HS.one HA1.out hlv HX1.out, acc_c2 HS.one HA1.out hlv HX1.out, acc_c3 HS.one HA1.out hlv HX1.out, led_c4 HS.two HA2.out, acc_c0 HS.two HA2.out hlu HU1.out, acc_c1 HS.two HA2.out hlu HU1.out, acc_c2 HS.two HA2.out hlu HU1.out, acc_c3 HS.two HA2.out hlu HU1.out, HS⟩ _ (fun W hW => _) _
                  rotate_left
                  focus (go_simp; done)
                  focus (obtain ⟨k1, k2, k3, k4, k5, k6, k7, k8, k9, k10, X9⟩ := hW; go_simp; first | done | (with_reducible rfl))
                  simp only [Act.put, List.setIfInBounds_toArray, List.set_cons_zero, List.set_cons_succ]
                  refine' stage_take (i := 1) _ rfl (by kernel_rfl) (by kernel_rfl) (by kernel_rfl) (by kernel_rfl) (fun _ _ _ h => h) ⟨led_c4 HS.one HA1.out, acc_c0 HS.one HA1.out hlv HX1.out, acc_c1 HS.one HA1.out hlv HX1.out, acc_c2 HS.one HA1.out hlv HX1.out, acc_c3 HS.one HA1.out hlv HX1.out, led_c4 HS.two HA2.out, acc_c0 HS.two HA2.out hlu HU1.out, acc_c1 HS.two HA2.out hlu HU1.out, acc_c2 HS.two HA2.out hlu HU1.out, acc_c3 HS.two HA2.out hlu HU1.out, HS⟩ _ (fun W hW => _) _
                  rotate_left
                  focus (go_simp; done)
                  focus (obtain ⟨k1, k2, k3, k4, k5, k6, k7, k8, k9, k10, X9⟩ := hW; go_simp; first | done | (with_reducible rfl))
                  simp only [Act.put, List.setIfInBounds_toArray, List.set_cons_zero, List.set_cons_succ]
                  refine' stage_take (i := 2) _ rfl (by kernel_rfl) (by kernel_rfl) (by kernel_rfl) (by kernel_rfl) (fun _ _ _ h => h) ⟨led_c4 HS.one HA1.out, acc_c0 HS.one HA1.out hlv HX1.out, acc_c1 HS.one HA1.out hlv HX1.out, acc_c2 HS.one HA1.out hlv HX1.out, acc_c3 HS.one HA1.out hlv HX1.out, led_c4 HS.two HA2.out, acc_c0 HS.two HA2.out hlu HU1.out, acc_c1 HS.two HA2.out hlu HU1.out, acc_c2 HS.two HA2.out hlu HU1.out, acc_c3 HS.two HA2.out hlu HU1.out, HS⟩ _ (fun W hW => _) _
                  rotate_left
                  focus (go_simp; done)
                  focus (obtain ⟨k1, k2, k3, k4, k5, k6, k7, k8, k9, k10, X9⟩ := hW; go_simp; first | done | (with_reducible rfl))
                  simp only [Act.put, List.setIfInBounds_toArray, List.set_cons_zero, List.set_cons_succ]
                  refine' stage_take (i := 3) _ rfl (by kernel_rfl) (by kernel_rfl) (by kernel_rfl) (by kernel_rfl) (fun _ _ _ h => h) ⟨led_c4 HS.one HA1.out, acc_c0 HS.one HA1.out hlv HX1.out, acc_c1 HS.one HA1.out hlv HX1.out, acc_c2 HS.one HA1.out hlv HX1.out, acc_c3 HS.one HA1.out hlv HX1.out, led_c4 HS.two HA2.out, acc_c0 HS.two HA2.out hlu HU1.out, acc_c1 HS.two HA2.out hlu HU1.out, acc_c2 HS.two HA2.out hlu HU1.out, acc_c3 HS.two HA2.out hlu HU1.out, HS⟩ _ (fun W hW => _) _
                  rotate_left
                  focus (go_simp; done)
                  focus (obtain ⟨k1, k2, k3, k4, k5, k6, k7, k8, k9, k10, X9⟩ := hW; go_simp; first | done | (with_reducible rfl))
                  simp only [Act.put, List.setIfInBounds_toArray, List.set_cons_zero, List.set_cons_succ]
                  refine' stage_take (i := 4) _ rfl (by kernel_rfl) (by kernel_rfl) (by kernel_rfl) (by kernel_rfl) (fun _ _ _ h => h) ⟨led_c4 HS.one HA1.out, acc_c0 HS.one HA1.out hlv HX1.out, acc_c1 HS.one HA1.out hlv HX1.out, acc_c2 HS.one HA1.out hlv HX1.out, acc_c3 HS.one HA1.out hlv HX1.out, led_c4 HS.two HA2.out, acc_c0 HS.two HA2.out hlu HU1.out, acc_c1 HS.two HA2.out hlu HU1.out, acc_c2 HS.two HA2.out hlu HU1.out, acc_c3 HS.two HA2.out hlu HU1.out, HS⟩ _ (fun W hW => _) _
                  rotate_left
                  focus (go_simp; done)
                  focus (obtain ⟨k1, k2, k3, k4, k5, k6, k7, k8, k9, k10, X9⟩ := hW; go_simp; first | done | (with_reducible rfl))
                  simp only [Act.put, List.setIfInBounds_toArray, List.set_cons_zero, List.set_cons_succ]
                  refine' stage_take (i := 5) _ rfl (by kernel_rfl) (by kernel_rfl) (by kernel_rfl) (by kernel_rfl) (fun _ _ _ h => h) ⟨led_c4 HS.one HA1.out, acc_c0 HS.one HA1.out hlv HX1.out, acc_c1 HS.one HA1.out hlv HX1.out, acc_c2 HS.one HA1.out hlv HX1.out, acc_c3 HS.one HA1.out hlv HX1.out, led_c4 HS.two HA2.out, acc_c0 HS.two HA2.out hlu HU1.out, acc_c1 HS.two HA2.out hlu HU1.out, acc_c2 HS.two HA2.out hlu HU1.out, acc_c3 HS.two HA2.out hlu HU1.out, HS⟩ _ (fun W hW => _) _
                  rotate_left
                  focus (go_simp; done)
                  focus (obtain ⟨k1, k2, k3, k4, k5, k6, k7, k8, k9, k10, X9⟩ := hW; go_simp; first | done | (with_reducible rfl))
                  simp only [Act.put, List.setIfInBounds_toArray, List.set_cons_zero, List.set_cons_succ]
                  refine' stage_take (i := 6) _ rfl (by kernel_rfl) (by kernel_rfl) (by kernel_rfl) (by kernel_rfl) (fun _ _ _ h => h) ⟨led_c4 HS.one HA1.out, acc_c0 HS.one HA1.out hlv HX1.out, acc_c1 HS.one HA1.out hlv HX1.out, acc_c2 HS.one HA1.out hlv HX1.out, acc_c3 HS.one HA1.out hlv HX1.out, led_c4 HS.two HA2.out, acc_c0 HS.two HA2.out hlu HU1.out, acc_c1 HS.two HA2.out hlu HU1.out, acc_c2 HS.two HA2.out hlu HU1.out, acc_c3 HS.two HA2.out hlu HU1.out, HS⟩ _ (fun W hW => _) _
                  rotate_left
                  focus (go_simp; done)
                  focus (obtain ⟨k1, k2, k3, k4, k5, k6, k7, k8, k9, k10, X9⟩ := hW; go_simp; first | done | (with_reducible rfl))
                  simp only [Act.put, List.setIfInBounds_toArray, List.set_cons_zero, List.set_cons_succ]
                  refine' stage_take (i := 7) _ rfl (by kernel_rfl) (by kernel_rfl) (by kernel_rfl) (by kernel_rfl) (fun _ _ _ h => h) ⟨led_c4 HS.one HA1.out, acc_c0 HS.one HA1.out hlv HX1.out, acc_c1 HS.one HA1.out hlv HX1.out, acc_c2 HS.one HA1.out hlv HX1.out, acc_c3 HS.one HA1.out hlv HX1.out, led_c4 HS.two HA2.out, acc_c0 HS.two HA2.out hlu HU1.out, acc_c1 HS.two HA2.out hlu HU1.out, acc_c2 HS.two HA2.out hlu HU1.out, acc_c3 HS.two HA2.out hlu HU1.out, HS⟩ _ (fun W hW => _) _
                  rotate_left
                  focus (go_simp; done)
                  focus (obtain ⟨k1, k2, k3, k4, k5, k6, k7, k8, k9, k10, X9⟩ := hW; go_simp; first | done | (with_reducible rfl))
                  simp only [Act.put, List.setIfInBounds_toArray, List.set_cons_zero, List.set_cons_succ]
                  refine' stage_take (i := 8) _ rfl (by kernel_rfl) (by kernel_rfl) (by kernel_rfl) (by kernel_rfl) (fun _ _ _ h => h) ⟨led_c4 HS.one HA1.out, acc_c0 HS.one HA1.out hlv HX1.out, acc_c1 HS.one HA1.out hlv HX1.out, acc_c2 HS.one HA1.out hlv HX1.out, acc_c3 HS.one HA1.out hlv HX1.out, led_c4 HS.two HA2.out, acc_c0 HS.two HA2.out hlu HU1.out, acc_c1 HS.two HA2.out hlu HU1.out, acc_c2 HS.two HA2.out hlu HU1.out, acc_c3 HS.two HA2.out hlu HU1.out, HS⟩ _ (fun W hW => _) _
                  rotate_left
                  focus (go_simp; done)
                  focus (obtain ⟨k1, k2, k3, k4, k5, k6, k7, k8, k9, k10, X9⟩ := hW; go_simp; first | done | (with_reducible rfl))
                  simp only [Act.put, List.setIfInBounds_toArray, List.set_cons_zero, List.set_cons_succ]
                  refine' stage_take (i := 9) _ rfl (by kernel_rfl) (by kernel_rfl) (by kernel_rfl) (by kernel_rfl) (fun _ _ _ h => h) ⟨led_c4 HS.one HA1.out, acc_c0 HS.one HA1.out hlv HX1.out, acc_c1 HS.one HA1.out hlv HX1.out, acc_c2 HS.one HA1.out hlv HX1.out, acc_c3 HS.one HA1.out hlv HX1.out, led_c4 HS.two HA2.out, acc_c0 HS.two HA2.out hlu HU1.out, acc_c1 HS.two HA2.out hlu HU1.out, acc_c2 HS.two HA2.out hlu HU1.out, acc_c3 HS.two HA2.out hlu HU1.out, HS⟩ _ (fun W hW => _) _
                  rotate_left
                  focus (go_simp; done)
                  focus (obtain ⟨k1, k2, k3, k4, k5, k6, k7, k8, k9, k10, X9⟩ := hW; go_simp; first | done | (with_reducible rfl))
                  simp only [Act.put, List.setIfInBounds_toArray, List.set_cons_zero, List.set_cons_succ]
                  clear HS
                  have LB : Below wr.heap.size wr wr.drew := (Below.refl _ _).drew
                  refine stage_both (i := 10) (j := 11) rfl rfl (by kernel_rfl) ?_ ?_ (fun K hK => ?_) (fun K hK => ?_)
                  focus (go_simp; done)
                  focus (go_simp; done)
                  · go_simp
                    have HS := XH.out.keep (LB.alloc (Nat.le_refl _) (.cells #[.int .i64 0, .slice none 0 0, .bool false, .int .i64 0] 51))
                    refine hK.out _ _ (fun _ => ⟨led_c4 HS.one HA1.out, acc_c0 HS.one HA1.out hlv HX1.out, acc_c1 HS.one HA1.out hlv HX1.out, acc_c2 HS.one HA1.out hlv HX1.out, acc_c3 HS.one HA1.out hlv HX1.out, led_c4 HS.two HA2.out, acc_c0 HS.two HA2.out hlu HU1.out, acc_c1 HS.two HA2.out hlu HU1.out, acc_c2 HS.two HA2.out hlu HU1.out, acc_c3 HS.two HA2.out hlu HU1.out, HS⟩) ?_
                    clear hK K HS
                    try simp only [Act.put, List.setIfInBounds_toArray, List.set_cons_zero, List.set_cons_succ]
                    refine stage_only (i := 11) rfl (by kernel_rfl) ?_ (fun K hK => ?_)
                    focus (go_simp; done)
                    go_simp
                    have LB2 := (LB.alloc (Nat.le_refl _) (.cells #[.int .i64 0, .slice none 0 0, .bool false, .int .i64 0] 51)).alloc (by simp) (.cells #[.int .i64 0, .slice none 0 0, .bool false, .int .i64 0] 51)
                    have HS := XH.out.keep LB2
                    refine hK.out _ _ (fun _ => ⟨led_c4 HS.one HA1.out, acc_c0 HS.one HA1.out hlv HX1.out, acc_c1 HS.one HA1.out hlv HX1.out, acc_c2 HS.one HA1.out hlv HX1.out, acc_c3 HS.one HA1.out hlv HX1.out, led_c4 HS.two HA2.out, acc_c0 HS.two HA2.out hlu HU1.out, acc_c1 HS.two HA2.out hlu HU1.out, acc_c2 HS.two HA2.out hlu HU1.out, acc_c3 HS.two HA2.out hlu HU1.out, HS⟩) ?_
                    clear hK K HS LB
                    try simp only [Act.put, List.setIfInBounds_toArray, List.set_cons_zero, List.set_cons_succ]
                    have Ga : Box ((wr.drew.alloc (.cells #[.int .i64 0, .slice none 0 0, .bool false, .int .i64 0] 51)).alloc (.cells #[.int .i64 0, .slice none 0 0, .bool false, .int .i64 0] 51)) wr.heap.size 51 #[.int .i64 0, .slice none 0 0, .bool false, .int .i64 0] := (Box.new wr.drew 51 #[.int .i64 0, .slice none 0 0, .bool false, .int .i64 0]).alloc (.cells #[.int .i64 0, .slice none 0 0, .bool false, .int .i64 0] 51)
                    have Gb : Box ((wr.drew.alloc (.cells #[.int .i64 0, .slice none 0 0, .bool false, .int .i64 0] 51)).alloc (.cells #[.int .i64 0, .slice none 0 0, .bool false, .int .i64 0] 51)) (wr.heap.size + 1) 51 #[.int .i64 0, .slice none 0 0, .bool false, .int .i64 0] := by
                      have := Box.new (wr.drew.alloc (.cells #[.int .i64 0, .slice none 0 0, .bool false, .int .i64 0] 51)) 51 #[.int .i64 0, .slice none 0 0, .bool false, .int .i64 0]
                      rw [World.size_alloc] at this
                      exact this
                    have LB := LB2
                    clear LB2
                    change Stage _ _ _ _ _ _ _ _ ((wr.drew.alloc (.cells #[.int .i64 0, .slice none 0 0, .bool false, .int .i64 0] 51)).alloc (.cells #[.int .i64 0, .slice none 0 0, .bool false, .int .i64 0] 51))
                    generalize (wr.drew.alloc (.cells #[.int .i64 0, .slice none 0 0, .bool false, .int .i64 0] 51)).alloc (.cells #[.int .i64 0, .slice none 0 0, .bool false, .int .i64 0] 51) = wa at *
                    obtain ⟨g9, e9⟩ : ∃ g, g = wr.heap.size := ⟨_, rfl⟩
                    obtain ⟨g10, e10⟩ : ∃ g, g = wr.heap.size + 1 := ⟨_, rfl⟩
                    have hg9 : wr.heap.size ≤ g9 := by omega
                    have hg10 : wr.heap.size ≤ g10 := by omega
                    have hgne : g10 ≠ g9 := by omega
                    have G9h : Hid (Box wa g9 51 #[.int .i64 0, .slice none 0 0, .bool false, .int .i64 0]) := by rw [e9]; exact Ga
                    have G10h : Hid (Box wa g10 51 #[.int .i64 0, .slice none 0 0, .bool false, .int .i64 0]) := by rw [e10]; exact Gb
                    try simp only [drew_heap]
                    simp only [← e10]
                    simp only [← e9]
                    clear Ga Gb e9 e10
                    have G9 := G9h.out
                    have G10 := G10h.out
                    have HS := XH.out.keep LB
                    have f0 : wa.cell? ⟨g9, 0, none⟩ = some (.int .i64 0) := G9.cell 0
                    have r0 : wa.frozen? ⟨g9, 0, none⟩ = false := G9.frozen 0
                    have f1 : wa.cell? ⟨g9, 1, none⟩ = some (.slice none 0 0) := G9.cell 1
                    have r1 : wa.frozen? ⟨g9, 1, none⟩ = false := G9.frozen 1
                    have f2 : wa.cell? ⟨g9, 2, none⟩ = some (.bool false) := G9.cell 2
                    have r2 : wa.frozen? ⟨g9, 2, none⟩ = false := G9.frozen 2
                    have f3 : wa.cell? ⟨g9, 3, none⟩ = some (.int .i64 0) := G9.cell 3
                    have r3 : wa.frozen? ⟨g9, 3, none⟩ = false := G9.frozen 3
                    refine stage_only (i := 12) rfl (by kernel_rfl) ?_ (fun K hK => ?_)
                    focus (go_simp; done)
                    go_simp
                    clear f0 r0 f1 r1 f2 r2 f3 r3
                    replace LB := fill4_low LB hg9 (.int .i64 x0) (.slice ca x1.length cc) (.bool x2) (.int .i64 x3)
                    replace G10 := fill4_far G10 hgne (.int .i64 x0) (.slice ca x1.length cc) (.bool x2) (.int .i64 x3)
                    replace G9 := fill4_box G9 (.int .i64 x0) (.slice ca x1.length cc) (.bool x2) (.int .i64 x3)
                    replace HS := XH.out.keep LB
                    refine hK.out _ _ (fun _ => ⟨led_c4 HS.one HA1.out, acc_c0 HS.one HA1.out hlv HX1.out, acc_c1 HS.one HA1.out hlv HX1.out, acc_c2 HS.one HA1.out hlv HX1.out, acc_c3 HS.one HA1.out hlv HX1.out, led_c4 HS.two HA2.out, acc_c0 HS.two HA2.out hlu HU1.out, acc_c1 HS.two HA2.out hlu HU1.out, acc_c2 HS.two HA2.out hlu HU1.out, acc_c3 HS.two HA2.out hlu HU1.out, HS⟩) ?_
                    clear hK K
                    try simp only [Act.put, List.setIfInBounds_toArray, List.set_cons_zero, List.set_cons_succ]
                    generalize (((wa.setCell ⟨g9, 0, none⟩ (.int .i64 x0)).setCell ⟨g9, 1, none⟩ (.slice ca x1.length cc)).setCell ⟨g9, 2, none⟩ (.bool x2)).setCell ⟨g9, 3, none⟩ (.int .i64 x3) = wb at *
                    have f0 : wb.cell? ⟨g10, 0, none⟩ = some (.int .i64 0) := G10.cell 0
                    have r0 : wb.frozen? ⟨g10, 0, none⟩ = false := G10.frozen 0
                    have f1 : wb.cell? ⟨g10, 1, none⟩ = some (.slice none 0 0) := G10.cell 1
                    have r1 : wb.frozen? ⟨g10, 1, none⟩ = false := G10.frozen 1
                    have f2 : wb.cell? ⟨g10, 2, none⟩ = some (.bool false) := G10.cell 2
                    have r2 : wb.frozen? ⟨g10, 2, none⟩ = false := G10.frozen 2
                    have f3 : wb.cell? ⟨g10, 3, none⟩ = some (.int .i64 0) := G10.cell 3
                    have r3 : wb.frozen? ⟨g10, 3, none⟩ = false := G10.frozen 3
                    refine stage_only (i := 13) rfl (by kernel_rfl) ?_ (fun K hK => ?_)
                    focus (go_simp; done)
                    go_simp
                    clear f0 r0 f1 r1 f2 r2 f3 r3
                    replace LB := fill4_low LB hg10 (.int .i64 y0) (.slice cb y1.length cd) (.bool y2) (.int .i64 y3)
                    replace G9 := fill4_far G9 hgne.symm (.int .i64 y0) (.slice cb y1.length cd) (.bool y2) (.int .i64 y3)
                    replace G10 := fill4_box G10 (.int .i64 y0) (.slice cb y1.length cd) (.bool y2) (.int .i64 y3)
                    replace HS := XH.out.keep LB
                    refine hK.out _ _ (fun h => absurd h (by decide)) ?_
                    clear hK K
                    try simp only [Act.put, List.setIfInBounds_toArray, List.set_cons_zero, List.set_cons_succ]
                    generalize (((wb.setCell ⟨g10, 0, none⟩ (.int .i64 y0)).setCell ⟨g10, 1, none⟩ (.slice cb y1.length cd)).setCell ⟨g10, 2, none⟩ (.bool y2)).setCell ⟨g10, 3, none⟩ (.int .i64 y3) = wc at *
                    refine stage_end (by kernel_rfl) ?_
                    have c0 : wc.cell? ⟨g9, 0, none⟩ = some (.int .i64 x0) := G9.cell 0
                    have c1 : wc.cell? ⟨g9, 1, none⟩ = some (.slice ca x1.length cc) := G9.cell 1
                    have c2 : wc.cell? ⟨g9, 2, none⟩ = some (.bool x2) := G9.cell 2
                    have c3 : wc.cell? ⟨g9, 3, none⟩ = some (.int .i64 x3) := G9.cell 3
                    have d0 : wc.cell? ⟨g10, 0, none⟩ = some (.int .i64 y0) := G10.cell 0
                    have d1 : wc.cell? ⟨g10, 1, none⟩ = some (.slice cb y1.length cd) := G10.cell 1
                    have d2 : wc.cell? ⟨g10, 2, none⟩ = some (.bool y2) := G10.cell 2
                    have d3 : wc.cell? ⟨g10, 3, none⟩ = some (.int .i64 y3) := G10.cell 3
                    have HCAc := Lib.hid (HCA.out.keep LB)
                    have HCBc := Lib.hid (HCB.out.keep LB)
                    have XC := Lib.hid HS
                    clear G9 G10 HS LB HCA HCB G9h G10h hg9 hg10 hgne
                    by_cases h0 : x0 = y0
                    rotate_left
                    · have hb : (x0 != y0) = true := by simpa using h0
                      have HN : l.accts ≠ m.accts := fun h => h0 (by have := HXK.out h; simp only [Acc.mk.injEq] at this; exact this.1)
                      have HX : Hid (b = false) := by unfold Hid; rw [HE.out, decide_eq_false HN]; simp
                      clear h0 HN HE HM
                      go_wp2_with fail
                      go_ret
                      exact ⟨ret_bool HX.out.symm, XC.out.one.low⟩
                    subst h0
                    by_cases h2 : x2 = y2
                    rotate_left
                    · have hb : (x2 != y2) = true := by simpa using h2
                      have HN : l.accts ≠ m.accts := fun h => h2 (by have := HXK.out h; simp only [Acc.mk.injEq] at this; exact this.2.2.1)
                      have HX : Hid (b = false) := by unfold Hid; rw [HE.out, decide_eq_false HN]; simp
                      cases x2 <;> cases y2 <;> first
                        | exact absurd rfl h2
                        | (clear hb h2 HN HE HM; go_wp2_with fail; go_ret; exact ⟨ret_bool HX.out.symm, XC.out.one.low⟩)
                    subst h2
                    by_cases h3 : x3 = y3
                    rotate_left
                    · have hb : (x3 != y3) = true := by simpa using h3
                      have HN : l.accts ≠ m.accts := fun h => h3 (by have := HXK.out h; simp only [Acc.mk.injEq] at this; exact this.2.2.2)
                      have HX : Hid (b = false) := by unfold Hid; rw [HE.out, decide_eq_false HN]; simp
                      clear h3 HN HE HM
                      go_wp2_with fail
                      go_ret
                      exact ⟨ret_bool HX.out.symm, XC.out.one.low⟩
                    subst h3
                    have CI := Lib.hid (rsame_int ca cb cc cd x1 y1 wc bx by_ HCAc.out HCBc.out)
                    by_cases h1 : x1 = y1
                    · have HI : Hid (l.accts.take (k + 1) = m.accts.take (k + 1)) := HM.out.2 ⟨H.out, by rw [h1]⟩
                      rw [decide_eq_true h1] at CI
                      clear HCAc HCBc HM H HXK h1
                      go_wp2_with (go_at_call 35; refine CI.out.mono ?_; rintro e w5 ⟨rfl, n5, rfl⟩)
                      go_roundw
                      case rel => exact ⟨k + 1, by omega, by go_num, XC.out.drewN n5, HI⟩
                      case measure => simp [intOf]; omega
                    · have HN : l.accts ≠ m.accts := fun h => h1 (by have := HXK.out h; simp only [Acc.mk.injEq] at this; exact this.2.1)
                      have HX : Hid (b = false) := by unfold Hid; rw [HE.out, decide_eq_false HN]; simp
                      rw [decide_eq_false h1] at CI
                      clear HCAc HCBc HM H HXK h1 HN HE
                      go_wp2_with (go_at_call 35; refine CI.out.mono ?_; rintro e w5 ⟨rfl, n5, rfl⟩)
                      go_ret
                      exact ⟨ret_bool HX.out.symm, below_drewN XC.out.one.low n5⟩
                  · go_simp
                    have HS := XH.out.keep (LB.alloc (Nat.le_refl _) (.cells #[.int .i64 0, .slice none 0 0, .bool false, .int .i64 0] 51))
                    refine hK.out _ _ (fun _ => ⟨led_c4 HS.one HA1.out, acc_c0 HS.one HA1.out hlv HX1.out, acc_c1 HS.one HA1.out hlv HX1.out, acc_c2 HS.one HA1.out hlv HX1.out, acc_c3 HS.one HA1.out hlv HX1.out, led_c4 HS.two HA2.out, acc_c0 HS.two HA2.out hlu HU1.out, acc_c1 HS.two HA2.out hlu HU1.out, acc_c2 HS.two HA2.out hlu HU1.out, acc_c3 HS.two HA2.out hlu HU1.out, HS⟩) ?_
                    clear hK K HS
                    try simp only [Act.put, List.setIfInBounds_toArray, List.set_cons_zero, List.set_cons_succ]
                    refine stage_only (i := 10) rfl (by kernel_rfl) ?_ (fun K hK => ?_)
                    focus (go_simp; done)
                    go_simp
                    have LB2 := (LB.alloc (Nat.le_refl _) (.cells #[.int .i64 0, .slice none 0 0, .bool false, .int .i64 0] 51)).alloc (by simp) (.cells #[.int .i64 0, .slice none 0 0, .bool false, .int .i64 0] 51)
                    have HS := XH.out.keep LB2
                    refine hK.out _ _ (fun _ => ⟨led_c4 HS.one HA1.out, acc_c0 HS.one HA1.out hlv HX1.out, acc_c1 HS.one HA1.out hlv HX1.out, acc_c2 HS.one HA1.out hlv HX1.out, acc_c3 HS.one HA1.out hlv HX1.out, led_c4 HS.two HA2.out, acc_c0 HS.two HA2.out hlu HU1.out, acc_c1 HS.two HA2.out hlu HU1.out, acc_c2 HS.two HA2.out hlu HU1.out, acc_c3 HS.two HA2.out hlu HU1.out, HS⟩) ?_
                    clear hK K HS LB
                    try simp only [Act.put, List.setIfInBounds_toArray, List.set_cons_zero, List.set_cons_succ]
                    have Ga : Box ((wr.drew.alloc (.cells #[.int .i64 0, .slice none 0 0, .bool false, .int .i64 0] 51)).alloc (.cells #[.int .i64 0, .slice none 0 0, .bool false, .int .i64 0] 51)) wr.heap.size 51 #[.int .i64 0, .slice none 0 0, .bool false, .int .i64 0] := (Box.new wr.drew 51 #[.int .i64 0, .slice none 0 0, .bool false, .int .i64 0]).alloc (.cells #[.int .i64 0, .slice none 0 0, .bool false, .int .i64 0] 51)
                    have Gb : Box ((wr.drew.alloc (.cells #[.int .i64 0, .slice none 0 0, .bool false, .int .i64 0] 51)).alloc (.cells #[.int .i64 0, .slice none 0 0, .bool false, .int .i64 0] 51)) (wr.heap.size + 1) 51 #[.int .i64 0, .slice none 0 0, .bool false, .int .i64 0] := by
                      have := Box.new (wr.drew.alloc (.cells #[.int .i64 0, .slice none 0 0, .bool false, .int .i64 0] 51)) 51 #[.int .i64 0, .slice none 0 0, .bool false, .int .i64 0]
                      rw [World.size_alloc] at this
                      exact this
                    have LB := LB2
                    clear LB2
                    change Stage _ _ _ _ _ _ _ _ ((wr.drew.alloc (.cells #[.int .i64 0, .slice none 0 0, .bool false, .int .i64 0] 51)).alloc (.cells #[.int .i64 0, .slice none 0 0, .bool false, .int .i64 0] 51))
                    generalize (wr.drew.alloc (.cells #[.int .i64 0, .slice none 0 0, .bool false, .int .i64 0] 51)).alloc (.cells #[.int .i64 0, .slice none 0 0, .bool false, .int .i64 0] 51) = wa at *
                    obtain ⟨g9, e9⟩ : ∃ g, g = wr.heap.size + 1 := ⟨_, rfl⟩
                    obtain ⟨g10, e10⟩ : ∃ g, g = wr.heap.size := ⟨_, rfl⟩
                    have hg9 : wr.heap.size ≤ g9 := by omega
                    have hg10 : wr.heap.size ≤ g10 := by omega
                    have hgne : g10 ≠ g9 := by omega
                    have G9h : Hid (Box wa g9 51 #[.int .i64 0, .slice none 0 0, .bool false, .int .i64 0]) := by rw [e9]; exact Gb
                    have G10h : Hid (Box wa g10 51 #[.int .i64 0, .slice none 0 0, .bool false, .int .i64 0]) := by rw [e10]; exact Ga
                    try simp only [drew_heap]
                    simp only [← e9]
                    simp only [← e10]
                    clear Ga Gb e9 e10
                    have G9 := G9h.out
                    have G10 := G10h.out
                    have HS := XH.out.keep LB
                    have f0 : wa.cell? ⟨g9, 0, none⟩ = some (.int .i64 0) := G9.cell 0
                    have r0 : wa.frozen? ⟨g9, 0, none⟩ = false := G9.frozen 0
                    have f1 : wa.cell? ⟨g9, 1, none⟩ = some (.slice none 0 0) := G9.cell 1
                    have r1 : wa.frozen? ⟨g9, 1, none⟩ = false := G9.frozen 1
                    have f2 : wa.cell? ⟨g9, 2, none⟩ = some (.bool false) := G9.cell 2
                    have r2 : wa.frozen? ⟨g9, 2, none⟩ = false := G9.frozen 2
                    have f3 : wa.cell? ⟨g9, 3, none⟩ = some (.int .i64 0) := G9.cell 3
                    have r3 : wa.frozen? ⟨g9, 3, none⟩ = false := G9.frozen 3
                    refine stage_only (i := 12) rfl (by kernel_rfl) ?_ (fun K hK => ?_)
                    focus (go_simp; done)
                    go_simp
                    clear f0 r0 f1 r1 f2 r2 f3 r3
                    replace LB := fill4_low LB hg9 (.int .i64 x0) (.slice ca x1.length cc) (.bool x2) (.int .i64 x3)
                    replace G10 := fill4_far G10 hgne (.int .i64 x0) (.slice ca x1.length cc) (.bool x2) (.int .i64 x3)
                    replace G9 := fill4_box G9 (.int .i64 x0) (.slice ca x1.length cc) (.bool x2) (.int .i64 x3)
                    replace HS := XH.out.keep LB
                    refine hK.out _ _ (fun _ => ⟨led_c4 HS.one HA1.out, acc_c0 HS.one HA1.out hlv HX1.out, acc_c1 HS.one HA1.out hlv HX1.out, acc_c2 HS.one HA1.out hlv HX1.out, acc_c3 HS.one HA1.out hlv HX1.out, led_c4 HS.two HA2.out, acc_c0 HS.two HA2.out hlu HU1.out, acc_c1 HS.two HA2.out hlu HU1.out, acc_c2 HS.two HA2.out hlu HU1.out, acc_c3 HS.two HA2.out hlu HU1.out, HS⟩) ?_
                    clear hK K
                    try simp only [Act.put, List.setIfInBounds_toArray, List.set_cons_zero, List.set_cons_succ]
                    generalize (((wa.setCell ⟨g9, 0, none⟩ (.int .i64 x0)).setCell ⟨g9, 1, none⟩ (.slice ca x1.length cc)).setCell ⟨g9, 2, none⟩ (.bool x2)).setCell ⟨g9, 3, none⟩ (.int .i64 x3) = wb at *
                    have f0 : wb.cell? ⟨g10, 0, none⟩ = some (.int .i64 0) := G10.cell 0
                    have r0 : wb.frozen? ⟨g10, 0, none⟩ = false := G10.frozen 0
                    have f1 : wb.cell? ⟨g10, 1, none⟩ = some (.slice none 0 0) := G10.cell 1
                    have r1 : wb.frozen? ⟨g10, 1, none⟩ = false := G10.frozen 1
                    have f2 : wb.cell? ⟨g10, 2, none⟩ = some (.bool false) := G10.cell 2
                    have r2 : wb.frozen? ⟨g10, 2, none⟩ = false := G10.frozen 2
                    have f3 : wb.cell? ⟨g10, 3, none⟩ = some (.int .i64 0) := G10.cell 3
                    have r3 : wb.frozen? ⟨g10, 3, none⟩ = false := G10.frozen 3
                    refine stage_only (i := 13) rfl (by kernel_rfl) ?_ (fun K hK => ?_)
                    focus (go_simp; done)
                    go_simp
                    clear f0 r0 f1 r1 f2 r2 f3 r3
                    replace LB := fill4_low LB hg10 (.int .i64 y0) (.slice cb y1.length cd) (.bool y2) (.int .i64 y3)
                    replace G9 := fill4_far G9 hgne.symm (.int .i64 y0) (.slice cb y1.length cd) (.bool y2) (.int .i64 y3)
                    replace G10 := fill4_box G10 (.int .i64 y0) (.slice cb y1.length cd) (.bool y2) (.int .i64 y3)
                    replace HS := XH.out.keep LB
                    refine hK.out _ _ (fun h => absurd h (by decide)) ?_
                    clear hK K
                    try simp only [Act.put, List.setIfInBounds_toArray, List.set_cons_zero, List.set_cons_succ]
                    generalize (((wb.setCell ⟨g10, 0, none⟩ (.int .i64 y0)).setCell ⟨g10, 1, none⟩ (.slice cb y1.length cd)).setCell ⟨g10, 2, none⟩ (.bool y2)).setCell ⟨g10, 3, none⟩ (.int .i64 y3) = wc at *
                    refine stage_end (by kernel_rfl) ?_
                    have c0 : wc.cell? ⟨g9, 0, none⟩ = some (.int .i64 x0) := G9.cell 0
                    have c1 : wc.cell? ⟨g9, 1, none⟩ = some (.slice ca x1.length cc) := G9.cell 1
                    have c2 : wc.cell? ⟨g9, 2, none⟩ = some (.bool x2) := G9.cell 2
                    have c3 : wc.cell? ⟨g9, 3, none⟩ = some (.int .i64 x3) := G9.cell 3
                    have d0 : wc.cell? ⟨g10, 0, none⟩ = some (.int .i64 y0) := G10.cell 0
                    have d1 : wc.cell? ⟨g10, 1, none⟩ = some (.slice cb y1.length cd) := G10.cell 1
                    have d2 : wc.cell? ⟨g10, 2, none⟩ = some (.bool y2) := G10.cell 2
                    have d3 : wc.cell? ⟨g10, 3, none⟩ = some (.int .i64 y3) := G10.cell 3
                    have HCAc := Lib.hid (HCA.out.keep LB)
                    have HCBc := Lib.hid (HCB.out.keep LB)
                    have XC := Lib.hid HS
                    clear G9 G10 HS LB HCA HCB G9h G10h hg9 hg10 hgne
                    by_cases h0 : x0 = y0
                    rotate_left
                    · have hb : (x0 != y0) = true := by simpa using h0
                      have HN : l.accts ≠ m.accts := fun h => h0 (by have := HXK.out h; simp only [Acc.mk.injEq] at this; exact this.1)
                      have HX : Hid (b = false) := by unfold Hid; rw [HE.out, decide_eq_false HN]; simp
                      clear h0 HN HE HM
                      go_wp2_with fail
                      go_ret
                      exact ⟨ret_bool HX.out.symm, XC.out.one.low⟩
                    subst h0
                    by_cases h2 : x2 = y2
                    rotate_left
                    · have hb : (x2 != y2) = true := by simpa using h2
                      have HN : l.accts ≠ m.accts := fun h => h2 (by have := HXK.out h; simp only [Acc.mk.injEq] at this; exact this.2.2.1)
                      have HX : Hid (b = false) := by unfold Hid; rw [HE.out, decide_eq_false HN]; simp
                      cases x2 <;> cases y2 <;> first
                        | exact absurd rfl h2
                        | (clear hb h2 HN HE HM; go_wp2_with fail; go_ret; exact ⟨ret_bool HX.out.symm, XC.out.one.low⟩)
                    subst h2
                    by_cases h3 : x3 = y3
                    rotate_left
                    · have hb : (x3 != y3) = true := by simpa using h3
                      have HN : l.accts ≠ m.accts := fun h => h3 (by have := HXK.out h; simp only [Acc.mk.injEq] at this; exact this.2.2.2)
                      have HX : Hid (b = false) := by unfold Hid; rw [HE.out, decide_eq_false HN]; simp
                      clear h3 HN HE HM
                      go_wp2_with fail
                      go_ret
                      exact ⟨ret_bool HX.out.symm, XC.out.one.low⟩
                    subst h3
                    have CI := Lib.hid (rsame_int ca cb cc cd x1 y1 wc bx by_ HCAc.out HCBc.out)
                    by_cases h1 : x1 = y1
                    · have HI : Hid (l.accts.take (k + 1) = m.accts.take (k + 1)) := HM.out.2 ⟨H.out, by rw [h1]⟩
                      rw [decide_eq_true h1] at CI
                      clear HCAc HCBc HM H HXK h1
                      go_wp2_with (go_at_call 35; refine CI.out.mono ?_; rintro e w5 ⟨rfl, n5, rfl⟩)
                      go_roundw
                      case rel => exact ⟨k + 1, by omega, by go_num, XC.out.drewN n5, HI⟩
                      case measure => simp [intOf]; omega
                    · have HN : l.accts ≠ m.accts := fun h => h1 (by have := HXK.out h; simp only [Acc.mk.injEq] at this; exact this.2.1)
                      have HX : Hid (b = false) := by unfold Hid; rw [HE.out, decide_eq_false HN]; simp
                      rw [decide_eq_false h1] at CI
                      clear HCAc HCBc HM H HXK h1 HN HE
                      go_wp2_with (go_at_call 35; refine CI.out.mono ?_; rintro e w5 ⟨rfl, n5, rfl⟩)
                      go_ret
                      exact ⟨ret_bool HX.out.symm, below_drewN XC.out.one.low n5⟩
                · have hkk : k = l.accts.length := by omega
                  subst hkk
                  have HI4 : Hid (decide (l.accts = m.accts) = true) := by
                    have := H.out
                    rw [List.take_length, HL4.out, List.take_length] at this
                    exact decide_eq_true this
                  clear H
                  have x5 := X.one.c5
                  have y5 := X.two.c5
                  have XH4 := Lib.hid X
                  clear X
                  cases hq5 : decide (l.poss = m.poss) with
                  | false =>
                    rw [hq5] at K5
                    have HX : Hid (b = false) := by unfold Hid; rw [HE.out, hq5]; simp
                    clear hq5 HE
                    go_wp2_with (first | (go_at_call 36; refine (K5.out _ XH4.out).mono ?_; rintro e w5 ⟨rfl, hn⟩; have X5 := Lib.hid (XH4.out.keep (bel_of hn)); clear hn; have x6 := X5.out.one.c6; have y6 := X5.out.two.c6) | fail)
                    go_ret
                    exact ⟨ret_bool HX.out.symm, X5.out.one.low⟩
                  | true =>
                  rw [hq5] at K5
                  have HD5 := Lib.hid hq5
                  clear hq5
                  cases hq6 : decide (l.orders = m.orders) with
                  | false =>
                    rw [hq6] at K6
                    have HX : Hid (b = false) := by unfold Hid; rw [HE.out, hq6]; simp
                    clear hq6 HE
                    go_wp2_with (first | (go_at_call 36; refine (K5.out _ XH4.out).mono ?_; rintro e w5 ⟨rfl, hn⟩; have X5 := Lib.hid (XH4.out.keep (bel_of hn)); clear hn; have x6 := X5.out.one.c6; have y6 := X5.out.two.c6) | (go_at_call 37; refine (K6.out _ X5.out).mono ?_; rintro e w6 ⟨rfl, hn⟩; have X6 := Lib.hid (X5.out.keep (bel_of hn)); clear hn; have x7 := X6.out.one.c7; have y7 := X6.out.two.c7) | fail)
                    go_ret
                    exact ⟨ret_bool HX.out.symm, X6.out.one.low⟩
                  | true =>
                  rw [hq6] at K6
                  have HD6 := Lib.hid hq6
                  clear hq6
                  cases hq7 : decide (l.avail = m.avail) with
                  | false =>
                    rw [hq7] at K7
                    have HX : Hid (b = false) := by unfold Hid; rw [HE.out, hq7]; simp
                    clear hq7 HE
                    go_wp2_with (first | (go_at_call 36; refine (K5.out _ XH4.out).mono ?_; rintro e w5 ⟨rfl, hn⟩; have X5 := Lib.hid (XH4.out.keep (bel_of hn)); clear hn; have x6 := X5.out.one.c6; have y6 := X5.out.two.c6) | (go_at_call 37; refine (K6.out _ X5.out).mono ?_; rintro e w6 ⟨rfl, hn⟩; have X6 := Lib.hid (X5.out.keep (bel_of hn)); clear hn; have x7 := X6.out.one.c7; have y7 := X6.out.two.c7) | (go_at_call 35; refine (K7.out _ X6.out).mono ?_; rintro e w7 ⟨rfl, hn⟩; have X7 := Lib.hid (X6.out.keep (bel_of hn)); clear hn; have x8 := X7.out.one.c8; have y8 := X7.out.two.c8) | fail)
                    go_ret
                    exact ⟨ret_bool HX.out.symm, X7.out.one.low⟩
                  | true =>
                  rw [hq7] at K7
                  have HD7 := Lib.hid hq7
                  clear hq7
                  cases hq8 : decide (l.locs = m.locs) with
                  | false =>
                    rw [hq8] at K8
                    have HX : Hid (b = false) := by unfold Hid; rw [HE.out, hq8]; simp
                    clear hq8 HE
                    go_wp2_with (first | (go_at_call 36; refine (K5.out _ XH4.out).mono ?_; rintro e w5 ⟨rfl, hn⟩; have X5 := Lib.hid (XH4.out.keep (bel_of hn)); clear hn; have x6 := X5.out.one.c6; have y6 := X5.out.two.c6) | (go_at_call 37; refine (K6.out _ X5.out).mono ?_; rintro e w6 ⟨rfl, hn⟩; have X6 := Lib.hid (X5.out.keep (bel_of hn)); clear hn; have x7 := X6.out.one.c7; have y7 := X6.out.two.c7) | (go_at_call 35; refine (K7.out _ X6.out).mono ?_; rintro e w7 ⟨rfl, hn⟩; have X7 := Lib.hid (X6.out.keep (bel_of hn)); clear hn; have x8 := X7.out.one.c8; have y8 := X7.out.two.c8) | (go_at_call 38; refine (K8.out _ X7.out).mono ?_; rintro e w8 ⟨rfl, hn⟩; have X8 := Lib.hid (X7.out.keep (bel_of hn)); clear hn) | fail)
                    go_ret
                    exact ⟨ret_bool HX.out.symm, X8.out.one.low⟩
                  | true =>
                  rw [hq8] at K8
                  have HD8 := Lib.hid hq8
                  clear hq8
                  have HX : Hid (b = true) := by unfold Hid; rw [HE.out, HD.out, HI1.out, HI2.out, HI3.out, HI4.out, HD5.out, HD6.out, HD7.out, HD8.out]; rfl
                  clear HE
                  go_wp2_with (first | (go_at_call 36; refine (K5.out _ XH4.out).mono ?_; rintro e w5 ⟨rfl, hn⟩; have X5 := Lib.hid (XH4.out.keep (bel_of hn)); clear hn; have x6 := X5.out.one.c6; have y6 := X5.out.two.c6) | (go_at_call 37; refine (K6.out _ X5.out).mono ?_; rintro e w6 ⟨rfl, hn⟩; have X6 := Lib.hid (X5.out.keep (bel_of hn)); clear hn; have x7 := X6.out.one.c7; have y7 := X6.out.two.c7) | (go_at_call 35; refine (K7.out _ X6.out).mono ?_; rintro e w7 ⟨rfl, hn⟩; have X7 := Lib.hid (X6.out.keep (bel_of hn)); clear hn; have x8 := X7.out.one.c8; have y8 := X7.out.two.c8) | (go_at_call 38; refine (K8.out _ X7.out).mono ?_; rintro e w8 ⟨rfl, hn⟩; have X8 := Lib.hid (X7.out.keep (bel_of hn)); clear hn) | fail)
                  go_ret
                  exact ⟨ret_bool HX.out.symm, X8.out.one.low⟩
end Go.Proofs.YtmimhimlgbklpaaDoor.LedW
namespace Go.Proofs.YtmimhimlgbklpaaDoor.LedW
open Go.RowKit Go.Proofs.YtmimhimlgbklpaaDoor.Bas Go.Proofs.YtmimhimlgbklpaaDoor.LedM


theorem LedOwn.lay_curs {base : Nat} {W : World} {s : Lists} {l : Led} {us : List (Value × Acc)} (h : LedOwn base W s l us) {p : Option Addr} {q : Nat} {xs : List (Int × Int)} (hr : W.ownsRow base 57 2 (.slice p xs.length q) xs.length (xs.flatMap curC)) :
    LedOwn base W { s with a1 := p, c1 := q } { l with curs := xs } us := ⟨hr, h.unders, h.instrs, h.accts, h.poss, h.orders, h.avail, h.locs, h.each, h.cash, h.dist, h.free⟩

theorem LedOwn.lay_unders {base : Nat} {W : World} {s : Lists} {l : Led} {us : List (Value × Acc)} (h : LedOwn base W s l us) {p : Option Addr} {q : Nat} {xs : List Und} (hr : W.ownsRow base 26 4 (.slice p xs.length q) xs.length (xs.flatMap undC)) :
    LedOwn base W { s with a2 := p, c2 := q } { l with unders := xs } us := ⟨h.curs, hr, h.instrs, h.accts, h.poss, h.orders, h.avail, h.locs, h.each, h.cash, h.dist, h.free⟩

theorem LedOwn.lay_instrs {base : Nat} {W : World} {s : Lists} {l : Led} {us : List (Value × Acc)} (h : LedOwn base W s l us) {p : Option Addr} {q : Nat} {xs : List Ins} (hr : W.ownsRow base 61 7 (.slice p xs.length q) xs.length (xs.flatMap insC)) :
    LedOwn base W { s with a3 := p, c3 := q } { l with instrs := xs } us := ⟨h.curs, h.unders, hr, h.accts, h.poss, h.orders, h.avail, h.locs, h.each, h.cash, h.dist, h.free⟩

theorem LedOwn.lay_poss {base : Nat} {W : World} {s : Lists} {l : Led} {us : List (Value × Acc)} (h : LedOwn base W s l us) {p : Option Addr} {q : Nat} {xs : List Tri} (hr : W.ownsRow base 65 3 (.slice p xs.length q) xs.length (xs.flatMap triC)) :
    LedOwn base W { s with a5 := p, c5 := q } { l with poss := xs } us := ⟨h.curs, h.unders, h.instrs, h.accts, hr, h.orders, h.avail, h.locs, h.each, h.cash, h.dist, h.free⟩

theorem LedOwn.lay_orders {base : Nat} {W : World} {s : Lists} {l : Led} {us : List (Value × Acc)} (h : LedOwn base W s l us) {p : Option Addr} {q : Nat} {xs : List Ord} (hr : W.ownsRow base 68 5 (.slice p xs.length q) xs.length (xs.flatMap ordC)) :
    LedOwn base W { s with a6 := p, c6 := q } { l with orders := xs } us := ⟨h.curs, h.unders, h.instrs, h.accts, h.poss, hr, h.avail, h.locs, h.each, h.cash, h.dist, h.free⟩

theorem LedOwn.lay_avail {base : Nat} {W : World} {s : Lists} {l : Led} {us : List (Value × Acc)} (h : LedOwn base W s l us) {p : Option Addr} {q : Nat} {xs : List Int} (hr : W.ownsRow base 3 1 (.slice p xs.length q) xs.length (i64s xs)) (hf : ∀ x ∈ us, Apart (.slice p xs.length q) x.1) :
    LedOwn base W { s with a7 := p, c7 := q } { l with avail := xs } us := ⟨h.curs, h.unders, h.instrs, h.accts, h.poss, h.orders, hr, h.locs, h.each, h.cash, h.dist, hf⟩

theorem LedOwn.lay_locs {base : Nat} {W : World} {s : Lists} {l : Led} {us : List (Value × Acc)} (h : LedOwn base W s l us) {p : Option Addr} {q : Nat} {xs : List Tri} (hr : W.ownsRow base 71 3 (.slice p xs.length q) xs.length (xs.flatMap triC)) :
    LedOwn base W { s with a8 := p, c8 := q } { l with locs := xs } us := ⟨h.curs, h.unders, h.instrs, h.accts, h.poss, h.orders, h.avail, hr, h.each, h.cash, h.dist, h.free⟩

theorem box_drew {W : World} {g : Nat} {t : TypeId} {cs : Array Value} (h : Box W g t cs) : Box W.drew g t cs := h
/-- the document's Copy, as far as it has come -/
structure RC (w W : World) (s : Lists) (l : Led) (cs : Array Value) (so : Lists) (lo : Led) (us : List (Value × Acc)) : Prop where
  low : Below w.heap.size w W
  b1 : Box W w.heap.size 37 #[.int .i64 l.day, .slice s.a1 l.curs.length s.c1, .slice s.a2 l.unders.length s.c2, .slice s.a3 l.instrs.length s.c3, .slice s.a4 l.accts.length s.c4, .slice s.a5 l.poss.length s.c5, .slice s.a6 l.orders.length s.c6, .slice s.a7 l.avail.length s.c7, .slice s.a8 l.locs.length s.c8]
  b2 : Box W (w.heap.size + 1) 37 zeroL
  b3 : Box W (w.heap.size + 2) 37 cs
  own : LedOwn w.heap.size W so lo us
section
variable {w A B : World} {s : Lists} {l : Led} {vs : List (Value × Acc)} {cs : Array Value} {so : Lists} {lo : Led} {us : List (Value × Acc)}
theorem RC.keep (h : RC w A s l cs so lo us) (b : Below A.heap.size A B) : RC w B s l cs so lo us := ⟨h.low.trans (b.mono h.low.size), h.b1.keep b, h.b2.keep b, h.b3.keep b, h.own.below b⟩
theorem led_drew {W : World} (h : LedAt W s l vs) : LedAt W.drew s l vs := ⟨h.curs, h.unders, h.instrs, h.accts, h.each, h.cash, h.poss, h.orders, h.avail, h.locs, h.caps⟩
theorem own_led_drew {base : Nat} {W : World} (h : LedOwn base W s l vs) : LedOwn base W.drew s l vs := ⟨h.curs, h.unders, h.instrs, h.accts, h.poss, h.orders, h.avail, h.locs, h.each, h.cash, h.dist, h.free⟩
theorem RC.drew (h : RC w A s l cs so lo us) : RC w A.drew s l cs so lo us := ⟨h.low.drew, h.b1, h.b2, h.b3, own_led_drew h.own⟩
/-- the boxes alone -/
structure RB (w W : World) (s : Lists) (l : Led) (cs : Array Value) : Prop where
  low : Below w.heap.size w W
  b1 : Box W w.heap.size 37 #[.int .i64 l.day, .slice s.a1 l.curs.length s.c1, .slice s.a2 l.unders.length s.c2, .slice s.a3 l.instrs.length s.c3, .slice s.a4 l.accts.length s.c4, .slice s.a5 l.poss.length s.c5, .slice s.a6 l.orders.length s.c6, .slice s.a7 l.avail.length s.c7, .slice s.a8 l.locs.length s.c8]
  b2 : Box W (w.heap.size + 1) 37 zeroL
  b3 : Box W (w.heap.size + 2) 37 cs
theorem RC.rb (h : RC w A s l cs so lo us) : RB w A s l cs := ⟨h.low, h.b1, h.b2, h.b3⟩
theorem RB.keep (h : RB w A s l cs) (b : Below A.heap.size A B) : RB w B s l cs := ⟨h.low.trans (b.mono h.low.size), h.b1.keep b, h.b2.keep b, h.b3.keep b⟩
theorem box_kept {W W' : World} {g : Nat} {t : TypeId} {cs : Array Value} (h : Box W g t cs) {b : Option Nat} (hg : W.grownBy W' b) (hne : b ≠ some g) : Box W' g t cs := (hg.block g h.lt (fun e => hne e.symm)).trans h
/-- a field of the copy's box is written; what it owns is told anew -/
theorem RC.put (h : RC w A s l cs so lo us) (j : Nat) (u : Value) {so' : Lists} {lo' : Led} {us' : List (Value × Acc)} (h' : LedOwn w.heap.size A so' lo' us') : RC w (A.setCell ⟨w.heap.size + 2, j, none⟩ u) s l (cs.setIfInBounds j u) so' lo' us' :=
  ⟨h.low.setCell (p := ⟨w.heap.size + 2, j, none⟩) (by simp) u, h.b1.far (p := ⟨w.heap.size + 2, j, none⟩) (by simp) u, h.b2.far (p := ⟨w.heap.size + 2, j, none⟩) (by simp) u, h.b3.set j u, h'.box h.b3 j u⟩
end

set_option maxHeartbeats 8000000 in
set_option maxRecDepth 100000 in
theorem rcopy_calls (s : Lists) (l : Led) (vs : List (Value × Acc)) (w : World) (hat : LedAt w s l vs) (hf : LedFit l) :
    Calls Tryd.prog 11 #[ledV s l] w fun e w' => ∃ s' us, e = .returned (ledV s' l) ∧ LedOwn w.heap.size w' s' l us ∧ Below w.heap.size w w' := by
  unfold ledV
  obtain ⟨n1, n2, n3, n4, n5, n6, n7, n8⟩ := hf.len
  have HFit := Lib.hid hf
  have HAt := Lib.hid hat
  have HLen := Lib.hid (LedAt.len hat)
  have X0 : RC w (((w.alloc (.cells #[.int .i64 l.day, .slice s.a1 l.curs.length s.c1, .slice s.a2 l.unders.length s.c2, .slice s.a3 l.instrs.length s.c3, .slice s.a4 l.accts.length s.c4, .slice s.a5 l.poss.length s.c5, .slice s.a6 l.orders.length s.c6, .slice s.a7 l.avail.length s.c7, .slice s.a8 l.locs.length s.c8] 37)).alloc (.cells zeroL 37)).alloc (.cells #[.int .i64 l.day, .slice none 0 0, .slice none 0 0, .slice none 0 0, .slice none 0 0, .slice none 0 0, .slice none 0 0, .slice none 0 0, .slice none 0 0] 37)) s l #[.int .i64 l.day, .slice none 0 0, .slice none 0 0, .slice none 0 0, .slice none 0 0, .slice none 0 0, .slice none 0 0, .slice none 0 0, .slice none 0 0] ⟨none, 0, none, 0, none, 0, none, 0, none, 0, none, 0, none, 0, none, 0⟩ ⟨l.day, [], [], [], [], [], [], [], []⟩ [] := by
    have a1 := Box.new w 37 #[.int .i64 l.day, .slice s.a1 l.curs.length s.c1, .slice s.a2 l.unders.length s.c2, .slice s.a3 l.instrs.length s.c3, .slice s.a4 l.accts.length s.c4, .slice s.a5 l.poss.length s.c5, .slice s.a6 l.orders.length s.c6, .slice s.a7 l.avail.length s.c7, .slice s.a8 l.locs.length s.c8]
    have a2 := Box.new (w.alloc (.cells #[.int .i64 l.day, .slice s.a1 l.curs.length s.c1, .slice s.a2 l.unders.length s.c2, .slice s.a3 l.instrs.length s.c3, .slice s.a4 l.accts.length s.c4, .slice s.a5 l.poss.length s.c5, .slice s.a6 l.orders.length s.c6, .slice s.a7 l.avail.length s.c7, .slice s.a8 l.locs.length s.c8] 37)) 37 zeroL
    have a3 := Box.new ((w.alloc (.cells #[.int .i64 l.day, .slice s.a1 l.curs.length s.c1, .slice s.a2 l.unders.length s.c2, .slice s.a3 l.instrs.length s.c3, .slice s.a4 l.accts.length s.c4, .slice s.a5 l.poss.length s.c5, .slice s.a6 l.orders.length s.c6, .slice s.a7 l.avail.length s.c7, .slice s.a8 l.locs.length s.c8] 37)).alloc (.cells zeroL 37)) 37 #[.int .i64 l.day, .slice none 0 0, .slice none 0 0, .slice none 0 0, .slice none 0 0, .slice none 0 0, .slice none 0 0, .slice none 0 0, .slice none 0 0]
    rw [World.size_alloc] at a2
    rw [World.size_alloc, World.size_alloc] at a3
    exact ⟨(((Below.refl w.heap.size w).alloc (Nat.le_refl _) _).alloc (by simp) _).alloc (by simp; omega) _, (a1.alloc _).alloc _, a2.alloc _, a3, World.ownsRow_nil _ _ _ _, World.ownsRow_nil _ _ _ _, World.ownsRow_nil _ _ _ _, World.ownsRow_nil _ _ _ _, World.ownsRow_nil _ _ _ _, World.ownsRow_nil _ _ _ _, World.ownsRow_nil _ _ _ _, World.ownsRow_nil _ _ _ _, rfl, by simp, by simp, by simp⟩
  clear hat hf
  go_enter Tryd.func11, Tryd.ntmps11
  go_upto_region 2 with fail
  change Code.wp _ _ _ _ (((w.alloc (.cells #[.int .i64 l.day, .slice s.a1 l.curs.length s.c1, .slice s.a2 l.unders.length s.c2, .slice s.a3 l.instrs.length s.c3, .slice s.a4 l.accts.length s.c4, .slice s.a5 l.poss.length s.c5, .slice s.a6 l.orders.length s.c6, .slice s.a7 l.avail.length s.c7, .slice s.a8 l.locs.length s.c8] 37)).alloc (.cells zeroL 37)).alloc (.cells #[.int .i64 l.day, .slice none 0 0, .slice none 0 0, .slice none 0 0, .slice none 0 0, .slice none 0 0, .slice none 0 0, .slice none 0 0, .slice none 0 0] 37))
  generalize ((w.alloc (.cells #[.int .i64 l.day, .slice s.a1 l.curs.length s.c1, .slice s.a2 l.unders.length s.c2, .slice s.a3 l.instrs.length s.c3, .slice s.a4 l.accts.length s.c4, .slice s.a5 l.poss.length s.c5, .slice s.a6 l.orders.length s.c6, .slice s.a7 l.avail.length s.c7, .slice s.a8 l.locs.length s.c8] 37)).alloc (.cells zeroL 37)).alloc (.cells #[.int .i64 l.day, .slice none 0 0, .slice none 0 0, .slice none 0 0, .slice none 0 0, .slice none 0 0, .slice none 0 0, .slice none 0 0, .slice none 0 0] 37) = w0 at *
  have e1 : (w0.alloc (.cells #[] 57)).cell? ⟨w.heap.size, 1, none⟩ = some (.slice s.a1 l.curs.length s.c1) := (X0.b1.alloc _).cell 1
  have X0H := Lib.hid X0
  have HA1 := Lib.hid (HAt.out.curs.keep (X0.low.alloc X0.low.size (.cells #[] 57)))
  clear X0
  go_upto_region 3 with (first | (at_builtin; refine wpList_append_at _ rfl (.tmp 9) (.tmp 11) elem_cur rfl w0.heap.size (.slice (some ⟨w0.heap.size, 0, none⟩) 0 0) 0 [] rfl (owns_empty w0 _ _ _ (Nat.le_refl _)) s.a1 l.curs.length s.c1 (l.curs.flatMap curC) rfl (flat_len len_cur l.curs) HA1.out (one_flat one_cur l.curs) (by unfold maxLen; omega) (by omega) (by simp) ?_; intro v2 w1 own1 bel1 _ _; simp only [Nat.zero_add, List.nil_append] at own1; obtain ⟨p1, q1, rfl, _⟩ := at_of_owns own1; have X1o := X0H.out.keep (((Below.refl _ _).alloc (Nat.le_refl _) _).trans bel1); have ck : w1.cell? ⟨w.heap.size + 2, 1, none⟩ = some (.slice none 0 0) := X1o.b3.cell 1; have fk := X1o.b3.frozen 1))
  have hown : LedOwn w.heap.size w1 ⟨p1, q1, none, 0, none, 0, none, 0, none, 0, none, 0, none, 0, none, 0⟩ ⟨l.day, l.curs, [], [], [], [], [], [], []⟩ [] := (X1o.own.lay_curs (own1.mono X0H.out.low.size))
  have X1 : RC w (w1.setCell ⟨w.heap.size + 2, 1, none⟩ (.slice p1 l.curs.length q1)) s l #[.int .i64 l.day, .slice p1 l.curs.length q1, .slice none 0 0, .slice none 0 0, .slice none 0 0, .slice none 0 0, .slice none 0 0, .slice none 0 0, .slice none 0 0] ⟨p1, q1, none, 0, none, 0, none, 0, none, 0, none, 0, none, 0, none, 0⟩ ⟨l.day, l.curs, [], [], [], [], [], [], []⟩ [] := X1o.put 1 (.slice p1 l.curs.length q1) hown
  clear e1 ck fk hown X1o own1 bel1 X0H HA1
  generalize w1.setCell ⟨w.heap.size + 2, 1, none⟩ (.slice p1 l.curs.length q1) = w1b at *
  have e1 : (w1b.alloc (.cells #[] 26)).cell? ⟨w.heap.size, 2, none⟩ = some (.slice s.a2 l.unders.length s.c2) := (X1.b1.alloc _).cell 2
  have X1H := Lib.hid X1
  have HA2 := Lib.hid (HAt.out.unders.keep (X1.low.alloc X1.low.size (.cells #[] 26)))
  clear X1
  go_upto_region 4 with (first | (at_builtin; refine wpList_append_at _ rfl (.tmp 14) (.tmp 16) elem_und rfl w1b.heap.size (.slice (some ⟨w1b.heap.size, 0, none⟩) 0 0) 0 [] rfl (owns_empty w1b _ _ _ (Nat.le_refl _)) s.a2 l.unders.length s.c2 (l.unders.flatMap undC) rfl (flat_len len_und l.unders) HA2.out (one_flat one_und l.unders) (by unfold maxLen; omega) (by omega) (by simp) ?_; intro v2 w2 own2 bel2 _ _; simp only [Nat.zero_add, List.nil_append] at own2; obtain ⟨p2, q2, rfl, _⟩ := at_of_owns own2; have X2o := X1H.out.keep (((Below.refl _ _).alloc (Nat.le_refl _) _).trans bel2); have ck : w2.cell? ⟨w.heap.size + 2, 2, none⟩ = some (.slice none 0 0) := X2o.b3.cell 2; have fk := X2o.b3.frozen 2))
  have hown : LedOwn w.heap.size w2 ⟨p1, q1, p2, q2, none, 0, none, 0, none, 0, none, 0, none, 0, none, 0⟩ ⟨l.day, l.curs, l.unders, [], [], [], [], [], []⟩ [] := (X2o.own.lay_unders (own2.mono X1H.out.low.size))
  have X2 : RC w (w2.setCell ⟨w.heap.size + 2, 2, none⟩ (.slice p2 l.unders.length q2)) s l #[.int .i64 l.day, .slice p1 l.curs.length q1, .slice p2 l.unders.length q2, .slice none 0 0, .slice none 0 0, .slice none 0 0, .slice none 0 0, .slice none 0 0, .slice none 0 0] ⟨p1, q1, p2, q2, none, 0, none, 0, none, 0, none, 0, none, 0, none, 0⟩ ⟨l.day, l.curs, l.unders, [], [], [], [], [], []⟩ [] := X2o.put 2 (.slice p2 l.unders.length q2) hown
  clear e1 ck fk hown X2o own2 bel2 X1H HA2
  generalize w2.setCell ⟨w.heap.size + 2, 2, none⟩ (.slice p2 l.unders.length q2) = w2b at *
  have e1 : (w2b.alloc (.cells #[] 61)).cell? ⟨w.heap.size, 3, none⟩ = some (.slice s.a3 l.instrs.length s.c3) := (X2.b1.alloc _).cell 3
  have X2H := Lib.hid X2
  have HA3 := Lib.hid (HAt.out.instrs.keep (X2.low.alloc X2.low.size (.cells #[] 61)))
  clear X2
  go_upto_region 5 with (first | (at_builtin; refine wpList_append_at _ rfl (.tmp 19) (.tmp 21) elem_ins rfl w2b.heap.size (.slice (some ⟨w2b.heap.size, 0, none⟩) 0 0) 0 [] rfl (owns_empty w2b _ _ _ (Nat.le_refl _)) s.a3 l.instrs.length s.c3 (l.instrs.flatMap insC) rfl (flat_len len_ins l.instrs) HA3.out (one_flat one_ins l.instrs) (by unfold maxLen; omega) (by omega) (by simp) ?_; intro v2 w3 own3 bel3 _ _; simp only [Nat.zero_add, List.nil_append] at own3; obtain ⟨p3, q3, rfl, _⟩ := at_of_owns own3; have X3o := X2H.out.keep (((Below.refl _ _).alloc (Nat.le_refl _) _).trans bel3); have ck : w3.cell? ⟨w.heap.size + 2, 3, none⟩ = some (.slice none 0 0) := X3o.b3.cell 3; have fk := X3o.b3.frozen 3))
  have hown : LedOwn w.heap.size w3 ⟨p1, q1, p2, q2, p3, q3, none, 0, none, 0, none, 0, none, 0, none, 0⟩ ⟨l.day, l.curs, l.unders, l.instrs, [], [], [], [], []⟩ [] := (X3o.own.lay_instrs (own3.mono X2H.out.low.size))
  have X3 : RC w (w3.setCell ⟨w.heap.size + 2, 3, none⟩ (.slice p3 l.instrs.length q3)) s l #[.int .i64 l.day, .slice p1 l.curs.length q1, .slice p2 l.unders.length q2, .slice p3 l.instrs.length q3, .slice none 0 0, .slice none 0 0, .slice none 0 0, .slice none 0 0, .slice none 0 0] ⟨p1, q1, p2, q2, p3, q3, none, 0, none, 0, none, 0, none, 0, none, 0⟩ ⟨l.day, l.curs, l.unders, l.instrs, [], [], [], [], []⟩ [] := X3o.put 3 (.slice p3 l.instrs.length q3) hown
  clear e1 ck fk hown X3o own3 bel3 X2H HA3
  generalize w3.setCell ⟨w.heap.size + 2, 3, none⟩ (.slice p3 l.instrs.length q3) = w3b at *
  have e4 : w3b.cell? ⟨w.heap.size, 4, none⟩ = some (.slice s.a4 l.accts.length s.c4) := X3.b1.cell 4
  have XH := Lib.hid X3
  clear X3
  go_wp2_with fail
  clear e4
  go_loopw [27] (fun i wr => ∃ (k : Nat) (p4 : Option Addr) (q4 : Nat) (us : List (Value × Acc)), k ≤ l.accts.length ∧ i = .int .i64 (k : Int) ∧ RC w wr s l #[.int .i64 l.day, .slice p1 l.curs.length q1, .slice p2 l.unders.length q2, .slice p3 l.instrs.length q3, .slice p4 k q4, .slice none 0 0, .slice none 0 0, .slice none 0 0, .slice none 0 0] ⟨p1, q1, p2, q2, p3, q3, p4, q4, none, 0, none, 0, none, 0, none, 0⟩ ⟨l.day, l.curs, l.unders, l.instrs, l.accts.take k, [], [], [], []⟩ us) (fun i _ => l.accts.length - (intOf i).toNat)
  case atStart => exact ⟨0, none, 0, [], by omega, rfl, by simpa using XH.out⟩
  case round =>
    clear XH
    obtain ⟨k, p4, q4, us, hk, rfl, X⟩ := hrel
    by_cases hlt : k < l.accts.length
    · have hlv : k < vs.length := by have := HLen.out; omega
      have hata := HAt.out.accts.keep X.low
      obtain ⟨b, off, ha, C1⟩ := rec_at len_acc (by decide) hata hlv
      have hcash := HAt.out.cash _ (List.getElem_mem hlv)
      have hfa := HFit.out.accts _ (List.getElem_mem hlt)
      have hke := LedAt.acc HAt.out hlv hlt
      have HTake := Lib.hid (List.take_succ_eq_append_getElem hlt)
      generalize l.accts[k] = a at *
      generalize vs[k] = x at *
      obtain ⟨xv, xa⟩ := x
      simp only at hke
      subst hke
      obtain ⟨x0, x1, x2, x3⟩ := xa
      obtain ⟨ca, cc, hxv, hcc, hcat⟩ := hcash
      simp only at hxv hcc hcat hfa
      subst hxv
      have c0 := C1 0 _ rfl
      have c1 := C1 1 _ rfl
      have c2 := C1 2 _ rfl
      have c3 := C1 3 _ rfl
      clear C1 hata
      simp only [← Nat.add_assoc, Nat.add_zero] at c0 c1 c2 c3
      have hcl : x1.length * 8 ≤ 140737488351232 := hfa.2.2.2
      rw [ha]
      have HCat := Lib.hid (fun W (h : Below w.heap.size w W) => hcat.keep h)
      have XH := Lib.hid X
      have hz := X.low.size
      clear hcat X hfa
      go_upto_region 8 with fail
      clear c0 c1 c2 c3
      have X1 := XH.out.keep ((Below.refl _ _).alloc (Nat.le_refl _) (.cells #[.int .i64 x0, .slice ca x1.length cc, .bool x2, .int .i64 x3] 51))
      have B5 := Box.new wr 51 #[.int .i64 x0, .slice ca x1.length cc, .bool x2, .int .i64 x3]
      have hw : w.heap.size + 2 < wr.heap.size := XH.out.b3.lt
      have HS1 := Lib.hid (And.intro X1 B5)
      have XR := Lib.hid XH.out.own.accts
      clear X1 B5 XH
      generalize wr.alloc (.cells #[.int .i64 x0, .slice ca x1.length cc, .bool x2, .int .i64 x3] 51) = wa at *
      obtain ⟨g5, hg5⟩ : ∃ g, g = wr.heap.size := ⟨_, rfl⟩
      have hne5 : (Value.slice p4 k q4).ownBlock ≠ some g5 := fun e => by
        have hlk : (l.accts.take k).length = k := by simp; omega
        have h1 := XR.out
        simp only [hlk] at h1
        have := (h1.lt g5 e).2
        omega
      clear XR
      rw [← hg5] at HS1 ⊢
      clear hg5
      refine stage_region 15 (fun W => W.cell? ⟨w.heap.size + 2, 4, none⟩ = some (.slice p4 k q4) ∧ W.cell? ⟨g5, 0, none⟩ = some (.int .i64 x0) ∧ W.cell? ⟨g5, 1, none⟩ = some (.slice ca x1.length cc) ∧ W.cell? ⟨g5, 2, none⟩ = some (.bool x2) ∧ W.cell? ⟨g5, 3, none⟩ = some (.int .i64 x3) ∧ (RB w W s l #[.int .i64 l.day, .slice p1 l.curs.length q1, .slice p2 l.unders.length q2, .slice p3 l.instrs.length q3, .slice p4 k q4, .slice none 0 0, .slice none 0 0, .slice none 0 0, .slice none 0 0] ∧ Box W g5 51 #[.int .i64 x0, .slice ca x1.length cc, .bool x2, .int .i64 x3])) (by kernel_rfl) ?_
      have HS := And.intro HS1.out.1.drew.rb (box_drew HS1.out.2)
      refine' stage_take (i := 0) _ rfl (by kernel_rfl) (by kernel_rfl) (by kernel_rfl) (by kernel_rfl) (fun _ _ _ h => h) ⟨HS.1.b3.cell 4, HS.2.cell 0, HS.2.cell 1, HS.2.cell 2, HS.2.cell 3, HS⟩ _ (fun W hW => _) _
      rotate_left
      focus (go_simp; done)
      focus (obtain ⟨k1, k2, k3, k4, k5, X9⟩ := hW; go_simp; first | done | (with_reducible rfl))
      simp only [Act.put, List.setIfInBounds_toArray, List.set_cons_zero, List.set_cons_succ]
      refine' stage_take (i := 1) _ rfl (by kernel_rfl) (by kernel_rfl) (by kernel_rfl) (by kernel_rfl) (fun _ _ _ h => h) ⟨HS.1.b3.cell 4, HS.2.cell 0, HS.2.cell 1, HS.2.cell 2, HS.2.cell 3, HS⟩ _ (fun W hW => _) _
      rotate_left
      focus (go_simp; done)
      focus (obtain ⟨k1, k2, k3, k4, k5, X9⟩ := hW; go_simp; first | done | (with_reducible rfl))
      simp only [Act.put, List.setIfInBounds_toArray, List.set_cons_zero, List.set_cons_succ]
      refine' stage_take (i := 2) _ rfl (by kernel_rfl) (by kernel_rfl) (by kernel_rfl) (by kernel_rfl) (fun _ _ _ h => h) ⟨HS.1.b3.cell 4, HS.2.cell 0, HS.2.cell 1, HS.2.cell 2, HS.2.cell 3, HS⟩ _ (fun W hW => _) _
      rotate_left
      focus (go_simp; done)
      focus (obtain ⟨k1, k2, k3, k4, k5, X9⟩ := hW; go_simp; first | done | (with_reducible rfl))
      simp only [Act.put, List.setIfInBounds_toArray, List.set_cons_zero, List.set_cons_succ]
      refine' stage_take (i := 3) _ rfl (by kernel_rfl) (by kernel_rfl) (by kernel_rfl) (by kernel_rfl) (fun _ _ _ h => h) ⟨HS.1.b3.cell 4, HS.2.cell 0, HS.2.cell 1, HS.2.cell 2, HS.2.cell 3, HS⟩ _ (fun W hW => _) _
      rotate_left
      focus (go_simp; done)
      focus (obtain ⟨k1, k2, k3, k4, k5, X9⟩ := hW; go_simp; first | done | (with_reducible rfl))
      simp only [Act.put, List.setIfInBounds_toArray, List.set_cons_zero, List.set_cons_succ]
      refine' stage_take (i := 5) _ rfl (by kernel_rfl) (by kernel_rfl) (by kernel_rfl) (by kernel_rfl) (fun _ _ _ h => h) ⟨HS.1.b3.cell 4, HS.2.cell 0, HS.2.cell 1, HS.2.cell 2, HS.2.cell 3, HS⟩ _ (fun W hW => _) _
      rotate_left
      focus (go_simp; done)
      focus (obtain ⟨k1, k2, k3, k4, k5, X9⟩ := hW; go_simp; first | done | (with_reducible rfl))
      simp only [Act.put, List.setIfInBounds_toArray, List.set_cons_zero, List.set_cons_succ]
      refine' stage_take (i := 6) _ rfl (by kernel_rfl) (by kernel_rfl) (by kernel_rfl) (by kernel_rfl) (fun _ _ _ h => h) ⟨HS.1.b3.cell 4, HS.2.cell 0, HS.2.cell 1, HS.2.cell 2, HS.2.cell 3, HS⟩ _ (fun W hW => _) _
      rotate_left
      focus (go_simp; done)
      focus (obtain ⟨k1, k2, k3, k4, k5, X9⟩ := hW; go_simp; first | done | (with_reducible rfl))
      simp only [Act.put, List.setIfInBounds_toArray, List.set_cons_zero, List.set_cons_succ]
      refine' stage_take (i := 8) _ rfl (by kernel_rfl) (by kernel_rfl) (by kernel_rfl) (by kernel_rfl) (fun _ _ _ h => h) ⟨HS.1.b3.cell 4, HS.2.cell 0, HS.2.cell 1, HS.2.cell 2, HS.2.cell 3, HS⟩ _ (fun W hW => _) _
      rotate_left
      focus (go_simp; done)
      focus (obtain ⟨k1, k2, k3, k4, k5, X9⟩ := hW; go_simp; first | done | (with_reducible rfl))
      simp only [Act.put, List.setIfInBounds_toArray, List.set_cons_zero, List.set_cons_succ]
      refine' stage_take (i := 9) _ rfl (by kernel_rfl) (by kernel_rfl) (by kernel_rfl) (by kernel_rfl) (fun _ _ _ h => h) ⟨HS.1.b3.cell 4, HS.2.cell 0, HS.2.cell 1, HS.2.cell 2, HS.2.cell 3, HS⟩ _ (fun W hW => _) _
      rotate_left
      focus (go_simp; done)
      focus (obtain ⟨k1, k2, k3, k4, k5, X9⟩ := hW; go_simp; first | done | (with_reducible rfl))
      simp only [Act.put, List.setIfInBounds_toArray, List.set_cons_zero, List.set_cons_succ]
      refine' stage_take (i := 10) _ rfl (by kernel_rfl) (by kernel_rfl) (by kernel_rfl) (by kernel_rfl) (fun _ _ _ h => h) ⟨HS.1.b3.cell 4, HS.2.cell 0, HS.2.cell 1, HS.2.cell 2, HS.2.cell 3, HS⟩ _ (fun W hW => _) _
      rotate_left
      focus (go_simp; done)
      focus (obtain ⟨k1, k2, k3, k4, k5, X9⟩ := hW; go_simp; first | done | (with_reducible rfl))
      simp only [Act.put, List.setIfInBounds_toArray, List.set_cons_zero, List.set_cons_succ]
      refine' stage_take (i := 11) _ rfl (by kernel_rfl) (by kernel_rfl) (by kernel_rfl) (by kernel_rfl) (fun _ _ _ h => h) ⟨HS.1.b3.cell 4, HS.2.cell 0, HS.2.cell 1, HS.2.cell 2, HS.2.cell 3, HS⟩ _ (fun W hW => _) _
      rotate_left
      focus (go_simp; done)
      focus (obtain ⟨k1, k2, k3, k4, k5, X9⟩ := hW; go_simp; first | done | (with_reducible rfl))
      simp only [Act.put, List.setIfInBounds_toArray, List.set_cons_zero, List.set_cons_succ]
      refine stage_only (i := 4) rfl (by kernel_rfl) ?_ (fun K hK => ?_)
      focus (go_simp; done)
      go_simp
      replace HS := And.intro (HS.1.keep ((Below.refl _ _).alloc (Nat.le_refl _) (.cells #[] 3))) (HS.2.alloc (.cells #[] 3))
      refine hK.out _ _ (fun _ => ⟨HS.1.b3.cell 4, HS.2.cell 0, HS.2.cell 1, HS.2.cell 2, HS.2.cell 3, HS⟩) ?_
      clear hK K
      try simp only [Act.put, List.setIfInBounds_toArray, List.set_cons_zero, List.set_cons_succ]
      refine stage_only (i := 7) rfl (by kernel_rfl) ?_ (fun K hK => ?_)
      focus (go_simp; done)
      refine wp_append_at (.tmp 35) (.tmp 37) elem_int rfl wa.heap.size (.slice (some ⟨wa.heap.size, 0, none⟩) 0 0) 0 [] rfl (owns_empty wa.drew _ _ _ (Nat.le_refl _)) ca x1.length cc (i64s x1) rfl (by rw [i64s_len]; omega) (HCat.out _ HS.1.low) (one_i64 x1) (by unfold maxLen; omega) (by omega) (by simp) ?_
      intro v9 w9 own9 bel9 _ _
      simp only [Nat.zero_add, List.nil_append] at own9
      obtain ⟨p9, q9, rfl, _⟩ := at_of_owns own9
      have hb9 := ((Below.refl wa.heap.size wa.drew).alloc (Nat.le_refl _) _).trans bel9
      clear HS
      have HS := And.intro (HS1.out.1.drew.rb.keep hb9) ((box_drew HS1.out.2).keep hb9)
      replace HS := HS
      refine hK.out _ _ (fun _ => ⟨HS.1.b3.cell 4, HS.2.cell 0, HS.2.cell 1, HS.2.cell 2, HS.2.cell 3, HS⟩) ?_
      clear hK K
      try simp only [Act.put, List.setIfInBounds_toArray, List.set_cons_zero, List.set_cons_succ]
      refine' stage_take (i := 12) _ rfl (by kernel_rfl) (by kernel_rfl) (by kernel_rfl) (by kernel_rfl) (fun _ _ _ h => h) ⟨HS.1.b3.cell 4, HS.2.cell 0, HS.2.cell 1, HS.2.cell 2, HS.2.cell 3, HS⟩ _ (fun W hW => _) _
      rotate_left
      focus (go_simp; done)
      focus (obtain ⟨k1, k2, k3, k4, k5, X9⟩ := hW; go_simp; first | done | (with_reducible rfl))
      simp only [Act.put, List.setIfInBounds_toArray, List.set_cons_zero, List.set_cons_succ]
      refine stage_only (i := 13) rfl (by kernel_rfl) ?_ (fun K hK => ?_)
      focus (go_simp; done)
      go_simp
      replace HS := And.intro (HS.1.keep ((Below.refl _ _).alloc (Nat.le_refl _) (.cells #[.int .i64 x0, .slice p9 x1.length q9, .bool x2, .int .i64 x3] 51))) (HS.2.alloc (.cells #[.int .i64 x0, .slice p9 x1.length q9, .bool x2, .int .i64 x3] 51))
      refine hK.out _ _ (fun _ => ⟨HS.1.b3.cell 4, HS.2.cell 0, HS.2.cell 1, HS.2.cell 2, HS.2.cell 3, HS⟩) ?_
      clear hK K
      try simp only [Act.put, List.setIfInBounds_toArray, List.set_cons_zero, List.set_cons_succ]
      refine stage_only (i := 14) rfl (by kernel_rfl) ?_ (fun K hK => ?_)
      focus (go_simp; done)
      have hlk : (l.accts.take k).length = k := by simp; omega
      have ho := (HS1.out.1.drew.own.below hb9).below ((Below.refl _ _).alloc (Nat.le_refl _) (.cells #[.int .i64 x0, .slice p9 x1.length q9, .bool x2, .int .i64 x3] 51))
      have HR := ho.accts
      simp only [hlk] at HR
      have hc9 := own9.alloc (.cells #[.int .i64 x0, .slice p9 x1.length q9, .bool x2, .int .i64 x3] 51)
      have hz9 : w.heap.size ≤ w9.heap.size := Nat.le_trans HS1.out.1.low.size hb9.size
      have hnew : At (w9.alloc (.cells #[.int .i64 x0, .slice p9 x1.length q9, .bool x2, .int .i64 x3] 51)) (some ⟨w9.heap.size, 0, none⟩) [.int .i64 x0, .slice p9 x1.length q9, .bool x2, .int .i64 x3] := at_alloc w9 #[.int .i64 x0, .slice p9 x1.length q9, .bool x2, .int .i64 x3] 51 (0, 0)
      refine wp_append_at (.tmp 32) (.tmp 44) elem_acc rfl w.heap.size (.slice p4 k q4) k (us.flatMap accC) rfl HR (some ⟨w9.heap.size, 0, none⟩) 1 1 [.int .i64 x0, .slice p9 x1.length q9, .bool x2, .int .i64 x3] rfl rfl hnew (by simp [Value.oneCell']) (by unfold maxLen; omega) (by omega) (by rw [World.size_alloc]; omega) ?_
      intro v4 w4 own4 bel4 g4 _
      obtain ⟨p5, q5, rfl, _⟩ := at_of_owns own4
      have Y2 : Box w4 (w.heap.size + 1) 37 zeroL := box_grown HS.1.b2 HR (by decide) g4
      have Y1 := box_grown HS.1.b1 HR (by decide) g4
      have Y3 := box_grown HS.1.b3 HR (by decide) g4
      have hx9 : ∀ x ∈ us, Apart x.1 (.slice p9 x1.length q9) := fun x hx => apart_new (HS1.out.1.own.cash x hx) own9 (Nat.le_refl _)
      have hv9 := apart_new HS1.out.1.own.avail own9 (Nat.le_refl _)
      have hp := ho.push (a := ⟨x0, x1, x2, x3⟩) (hc9.mono HS1.out.1.low.size) hx9 hv9 (n4 := p5) (k4 := q5) (by simp only [hlk]; exact own4) (by simp only [hlk]; exact g4)
      have HF : RC w w4 s l #[.int .i64 l.day, .slice p1 l.curs.length q1, .slice p2 l.unders.length q2, .slice p3 l.instrs.length q3, .slice p4 k q4, .slice none 0 0, .slice none 0 0, .slice none 0 0, .slice none 0 0] ⟨p1, q1, p2, q2, p3, q3, p5, q5, none, 0, none, 0, none, 0, none, 0⟩ ⟨l.day, l.curs, l.unders, l.instrs, l.accts.take (k + 1), [], [], [], []⟩ (us ++ [(.slice p9 x1.length q9, ⟨x0, x1, x2, x3⟩)]) := ⟨HS.1.low.trans bel4, Y1, Y2, Y3, by rw [HTake.out]; exact hp⟩
      have Y5 := box_kept HS.2 g4 hne5
      clear hp hx9 hv9 hnew HR own4 g4 ho
      replace HS := And.intro (RB.mk (HS.1.low.trans bel4) Y1 Y2 Y3) Y5
      refine hK.out _ _ (fun _ => ⟨HS.1.b3.cell 4, HS.2.cell 0, HS.2.cell 1, HS.2.cell 2, HS.2.cell 3, HS⟩) ?_
      clear hK K
      try simp only [Act.put, List.setIfInBounds_toArray, List.set_cons_zero, List.set_cons_succ]
      refine stage_only (i := 15) rfl (by kernel_rfl) ?_ (fun K hK => ?_)
      focus (go_simp; done)
      go_simp
      refine hK.out _ _ (fun h => absurd h (by decide)) ?_
      clear hK K
      try simp only [Act.put, List.setIfInBounds_toArray, List.set_cons_zero, List.set_cons_succ]
      refine stage_only (i := 16) rfl (by kernel_rfl) ?_ (fun K hK => ?_)
      focus (go_simp; done)
      have ck : w4.cell? ⟨w.heap.size + 2, 4, none⟩ = some (.slice p4 k q4) := HF.b3.cell 4
      have fk := HF.b3.frozen 4
      go_simp
      clear ck fk
      refine hK.out _ _ (fun h => absurd h (by decide)) ?_
      clear hK K
      try simp only [Act.put, List.setIfInBounds_toArray, List.set_cons_zero, List.set_cons_succ]
      refine stage_end (by kernel_rfl) ?_
      have XF := Lib.hid (HF.put 4 (.slice p5 (k + 1) q5) HF.own)
      clear HF
      go_wp2_with fail
      go_roundw
      case rel => exact ⟨k + 1, p5, q5, _, by omega, by go_num, by simpa using XF.out⟩
      case measure => simp [intOf]; omega
    · have hkk : k = l.accts.length := by omega
      subst hkk
      rw [List.take_length] at X
      go_upto_region 10 with fail
      have e1 : (wr.alloc (.cells #[] 65)).cell? ⟨w.heap.size, 5, none⟩ = some (.slice s.a5 l.poss.length s.c5) := (X.b1.alloc _).cell 5
      have XH := Lib.hid X
      have HA5 := Lib.hid (HAt.out.poss.keep (X.low.alloc X.low.size (.cells #[] 65)))
      clear X
      go_upto_region 11 with (first | (at_builtin; refine wpList_append_at _ rfl (.tmp 48) (.tmp 50) elem_pos rfl wr.heap.size (.slice (some ⟨wr.heap.size, 0, none⟩) 0 0) 0 [] rfl (owns_empty wr _ _ _ (Nat.le_refl _)) s.a5 l.poss.length s.c5 (l.poss.flatMap triC) rfl (flat_len len_pos l.poss) HA5.out (one_flat one_pos l.poss) (by unfold maxLen; omega) (by omega) (by simp) ?_; intro v2 w5 own5 bel5 _ _; simp only [Nat.zero_add, List.nil_append] at own5; obtain ⟨p5, q5, rfl, _⟩ := at_of_owns own5; have X5o := XH.out.keep (((Below.refl _ _).alloc (Nat.le_refl _) _).trans bel5); have ck : w5.cell? ⟨w.heap.size + 2, 5, none⟩ = some (.slice none 0 0) := X5o.b3.cell 5; have fk := X5o.b3.frozen 5))
      have hown : LedOwn w.heap.size w5 ⟨p1, q1, p2, q2, p3, q3, p4, q4, p5, q5, none, 0, none, 0, none, 0⟩ ⟨l.day, l.curs, l.unders, l.instrs, l.accts, l.poss, [], [], []⟩ us := (X5o.own.lay_poss (own5.mono XH.out.low.size))
      have X5 : RC w (w5.setCell ⟨w.heap.size + 2, 5, none⟩ (.slice p5 l.poss.length q5)) s l #[.int .i64 l.day, .slice p1 l.curs.length q1, .slice p2 l.unders.length q2, .slice p3 l.instrs.length q3, .slice p4 l.accts.length q4, .slice p5 l.poss.length q5, .slice none 0 0, .slice none 0 0, .slice none 0 0] ⟨p1, q1, p2, q2, p3, q3, p4, q4, p5, q5, none, 0, none, 0, none, 0⟩ ⟨l.day, l.curs, l.unders, l.instrs, l.accts, l.poss, [], [], []⟩ us := X5o.put 5 (.slice p5 l.poss.length q5) hown
      clear e1 ck fk hown X5o own5 bel5 XH HA5
      generalize w5.setCell ⟨w.heap.size + 2, 5, none⟩ (.slice p5 l.poss.length q5) = w5b at *
      have e1 : (w5b.alloc (.cells #[] 68)).cell? ⟨w.heap.size, 6, none⟩ = some (.slice s.a6 l.orders.length s.c6) := (X5.b1.alloc _).cell 6
      have X5H := Lib.hid X5
      have HA6 := Lib.hid (HAt.out.orders.keep (X5.low.alloc X5.low.size (.cells #[] 68)))
      clear X5
      go_upto_region 12 with (first | (at_builtin; refine wpList_append_at _ rfl (.tmp 53) (.tmp 55) elem_ord rfl w5b.heap.size (.slice (some ⟨w5b.heap.size, 0, none⟩) 0 0) 0 [] rfl (owns_empty w5b _ _ _ (Nat.le_refl _)) s.a6 l.orders.length s.c6 (l.orders.flatMap ordC) rfl (flat_len len_ord l.orders) HA6.out (one_flat one_ord l.orders) (by unfold maxLen; omega) (by omega) (by simp) ?_; intro v2 w6 own6 bel6 _ _; simp only [Nat.zero_add, List.nil_append] at own6; obtain ⟨p6, q6, rfl, _⟩ := at_of_owns own6; have X6o := X5H.out.keep (((Below.refl _ _).alloc (Nat.le_refl _) _).trans bel6); have ck : w6.cell? ⟨w.heap.size + 2, 6, none⟩ = some (.slice none 0 0) := X6o.b3.cell 6; have fk := X6o.b3.frozen 6))
      have hown : LedOwn w.heap.size w6 ⟨p1, q1, p2, q2, p3, q3, p4, q4, p5, q5, p6, q6, none, 0, none, 0⟩ ⟨l.day, l.curs, l.unders, l.instrs, l.accts, l.poss, l.orders, [], []⟩ us := (X6o.own.lay_orders (own6.mono X5H.out.low.size))
      have X6 : RC w (w6.setCell ⟨w.heap.size + 2, 6, none⟩ (.slice p6 l.orders.length q6)) s l #[.int .i64 l.day, .slice p1 l.curs.length q1, .slice p2 l.unders.length q2, .slice p3 l.instrs.length q3, .slice p4 l.accts.length q4, .slice p5 l.poss.length q5, .slice p6 l.orders.length q6, .slice none 0 0, .slice none 0 0] ⟨p1, q1, p2, q2, p3, q3, p4, q4, p5, q5, p6, q6, none, 0, none, 0⟩ ⟨l.day, l.curs, l.unders, l.instrs, l.accts, l.poss, l.orders, [], []⟩ us := X6o.put 6 (.slice p6 l.orders.length q6) hown
      clear e1 ck fk hown X6o own6 bel6 X5H HA6
      generalize w6.setCell ⟨w.heap.size + 2, 6, none⟩ (.slice p6 l.orders.length q6) = w6b at *
      have e1 : (w6b.alloc (.cells #[] 3)).cell? ⟨w.heap.size, 7, none⟩ = some (.slice s.a7 l.avail.length s.c7) := (X6.b1.alloc _).cell 7
      have X6H := Lib.hid X6
      have HA7 := Lib.hid (HAt.out.avail.keep (X6.low.alloc X6.low.size (.cells #[] 3)))
      clear X6
      go_upto_region 13 with (first | (at_builtin; refine wpList_append_at _ rfl (.tmp 58) (.tmp 60) elem_int rfl w6b.heap.size (.slice (some ⟨w6b.heap.size, 0, none⟩) 0 0) 0 [] rfl (owns_empty w6b _ _ _ (Nat.le_refl _)) s.a7 l.avail.length s.c7 (i64s l.avail) rfl (by rw [i64s_len]; omega) HA7.out (one_i64 l.avail) (by unfold maxLen; omega) (by omega) (by simp) ?_; intro v2 w7 own7 bel7 _ _; simp only [Nat.zero_add, List.nil_append] at own7; obtain ⟨p7, q7, rfl, _⟩ := at_of_owns own7; have X7o := X6H.out.keep (((Below.refl _ _).alloc (Nat.le_refl _) _).trans bel7); have ck : w7.cell? ⟨w.heap.size + 2, 7, none⟩ = some (.slice none 0 0) := X7o.b3.cell 7; have fk := X7o.b3.frozen 7))
      have hown : LedOwn w.heap.size w7 ⟨p1, q1, p2, q2, p3, q3, p4, q4, p5, q5, p6, q6, p7, q7, none, 0⟩ ⟨l.day, l.curs, l.unders, l.instrs, l.accts, l.poss, l.orders, l.avail, []⟩ us := (X7o.own.lay_avail (own7.mono X6H.out.low.size) (fun x hx => (apart_new (X6H.out.own.cash x hx) own7 (Nat.le_refl _)).symm))
      have X7 : RC w (w7.setCell ⟨w.heap.size + 2, 7, none⟩ (.slice p7 l.avail.length q7)) s l #[.int .i64 l.day, .slice p1 l.curs.length q1, .slice p2 l.unders.length q2, .slice p3 l.instrs.length q3, .slice p4 l.accts.length q4, .slice p5 l.poss.length q5, .slice p6 l.orders.length q6, .slice p7 l.avail.length q7, .slice none 0 0] ⟨p1, q1, p2, q2, p3, q3, p4, q4, p5, q5, p6, q6, p7, q7, none, 0⟩ ⟨l.day, l.curs, l.unders, l.instrs, l.accts, l.poss, l.orders, l.avail, []⟩ us := X7o.put 7 (.slice p7 l.avail.length q7) hown
      clear e1 ck fk hown X7o own7 bel7 X6H HA7
      generalize w7.setCell ⟨w.heap.size + 2, 7, none⟩ (.slice p7 l.avail.length q7) = w7b at *
      have e1 : (w7b.alloc (.cells #[] 71)).cell? ⟨w.heap.size, 8, none⟩ = some (.slice s.a8 l.locs.length s.c8) := (X7.b1.alloc _).cell 8
      have X7H := Lib.hid X7
      have HA8 := Lib.hid (HAt.out.locs.keep (X7.low.alloc X7.low.size (.cells #[] 71)))
      clear X7
      go_upto_region 14 with (first | (at_builtin; refine wpList_append_at _ rfl (.tmp 63) (.tmp 65) elem_loc rfl w7b.heap.size (.slice (some ⟨w7b.heap.size, 0, none⟩) 0 0) 0 [] rfl (owns_empty w7b _ _ _ (Nat.le_refl _)) s.a8 l.locs.length s.c8 (l.locs.flatMap triC) rfl (flat_len len_loc l.locs) HA8.out (one_flat one_loc l.locs) (by unfold maxLen; omega) (by omega) (by simp) ?_; intro v2 w8 own8 bel8 _ _; simp only [Nat.zero_add, List.nil_append] at own8; obtain ⟨p8, q8, rfl, _⟩ := at_of_owns own8; have X8o := X7H.out.keep (((Below.refl _ _).alloc (Nat.le_refl _) _).trans bel8); have ck : w8.cell? ⟨w.heap.size + 2, 8, none⟩ = some (.slice none 0 0) := X8o.b3.cell 8; have fk := X8o.b3.frozen 8))
      have hown : LedOwn w.heap.size w8 ⟨p1, q1, p2, q2, p3, q3, p4, q4, p5, q5, p6, q6, p7, q7, p8, q8⟩ ⟨l.day, l.curs, l.unders, l.instrs, l.accts, l.poss, l.orders, l.avail, l.locs⟩ us := (X8o.own.lay_locs (own8.mono X7H.out.low.size))
      have X8 : RC w (w8.setCell ⟨w.heap.size + 2, 8, none⟩ (.slice p8 l.locs.length q8)) s l #[.int .i64 l.day, .slice p1 l.curs.length q1, .slice p2 l.unders.length q2, .slice p3 l.instrs.length q3, .slice p4 l.accts.length q4, .slice p5 l.poss.length q5, .slice p6 l.orders.length q6, .slice p7 l.avail.length q7, .slice p8 l.locs.length q8] ⟨p1, q1, p2, q2, p3, q3, p4, q4, p5, q5, p6, q6, p7, q7, p8, q8⟩ ⟨l.day, l.curs, l.unders, l.instrs, l.accts, l.poss, l.orders, l.avail, l.locs⟩ us := X8o.put 8 (.slice p8 l.locs.length q8) hown
      clear e1 ck fk hown X8o own8 bel8 X7H HA8
      generalize w8.setCell ⟨w.heap.size + 2, 8, none⟩ (.slice p8 l.locs.length q8) = w8b at *
      have XE := Lib.hid X8
      clear X8
      have c0 : w8b.cell? ⟨w.heap.size + 2, 0, none⟩ = some (.int .i64 l.day) := XE.out.b3.cell 0
      have f0 : w8b.cell? ⟨w.heap.size + 1, 0, none⟩ = some (.int .i64 0) := XE.out.b2.cell 0
      have r0 : w8b.frozen? ⟨w.heap.size + 1, 0, none⟩ = false := XE.out.b2.frozen 0
      have c1 : w8b.cell? ⟨w.heap.size + 2, 1, none⟩ = some (.slice p1 l.curs.length q1) := XE.out.b3.cell 1
      have f1 : w8b.cell? ⟨w.heap.size + 1, 1, none⟩ = some (.slice none 0 0) := XE.out.b2.cell 1
      have r1 : w8b.frozen? ⟨w.heap.size + 1, 1, none⟩ = false := XE.out.b2.frozen 1
      have c2 : w8b.cell? ⟨w.heap.size + 2, 2, none⟩ = some (.slice p2 l.unders.length q2) := XE.out.b3.cell 2
      have f2 : w8b.cell? ⟨w.heap.size + 1, 2, none⟩ = some (.slice none 0 0) := XE.out.b2.cell 2
      have r2 : w8b.frozen? ⟨w.heap.size + 1, 2, none⟩ = false := XE.out.b2.frozen 2
      have c3 : w8b.cell? ⟨w.heap.size + 2, 3, none⟩ = some (.slice p3 l.instrs.length q3) := XE.out.b3.cell 3
      have f3 : w8b.cell? ⟨w.heap.size + 1, 3, none⟩ = some (.slice none 0 0) := XE.out.b2.cell 3
      have r3 : w8b.frozen? ⟨w.heap.size + 1, 3, none⟩ = false := XE.out.b2.frozen 3
      have c4 : w8b.cell? ⟨w.heap.size + 2, 4, none⟩ = some (.slice p4 l.accts.length q4) := XE.out.b3.cell 4
      have f4 : w8b.cell? ⟨w.heap.size + 1, 4, none⟩ = some (.slice none 0 0) := XE.out.b2.cell 4
      have r4 : w8b.frozen? ⟨w.heap.size + 1, 4, none⟩ = false := XE.out.b2.frozen 4
      have c5 : w8b.cell? ⟨w.heap.size + 2, 5, none⟩ = some (.slice p5 l.poss.length q5) := XE.out.b3.cell 5
      have f5 : w8b.cell? ⟨w.heap.size + 1, 5, none⟩ = some (.slice none 0 0) := XE.out.b2.cell 5
      have r5 : w8b.frozen? ⟨w.heap.size + 1, 5, none⟩ = false := XE.out.b2.frozen 5
      have c6 : w8b.cell? ⟨w.heap.size + 2, 6, none⟩ = some (.slice p6 l.orders.length q6) := XE.out.b3.cell 6
      have f6 : w8b.cell? ⟨w.heap.size + 1, 6, none⟩ = some (.slice none 0 0) := XE.out.b2.cell 6
      have r6 : w8b.frozen? ⟨w.heap.size + 1, 6, none⟩ = false := XE.out.b2.frozen 6
      have c7 : w8b.cell? ⟨w.heap.size + 2, 7, none⟩ = some (.slice p7 l.avail.length q7) := XE.out.b3.cell 7
      have f7 : w8b.cell? ⟨w.heap.size + 1, 7, none⟩ = some (.slice none 0 0) := XE.out.b2.cell 7
      have r7 : w8b.frozen? ⟨w.heap.size + 1, 7, none⟩ = false := XE.out.b2.frozen 7
      have c8 : w8b.cell? ⟨w.heap.size + 2, 8, none⟩ = some (.slice p8 l.locs.length q8) := XE.out.b3.cell 8
      have f8 : w8b.cell? ⟨w.heap.size + 1, 8, none⟩ = some (.slice none 0 0) := XE.out.b2.cell 8
      have r8 : w8b.frozen? ⟨w.heap.size + 1, 8, none⟩ = false := XE.out.b2.frozen 8
      go_wp2_with fail
      clear c0 f0 r0 c1 f1 r1 c2 f2 r2 c3 f3 r3 c4 f4 r4 c5 f5 r5 c6 f6 r6 c7 f7 r7 c8 f8 r8
      exact bodyPost_ret (results_cell (by rfl) _ _ (fill_box XE.out.b2 _ _ _ _ _ _ _ _ _) Tryd.underlying37 rfl (by kernel_rfl) rfl) rfl ⟨⟨p1, q1, p2, q2, p3, q3, p4, q4, p5, q5, p6, q6, p7, q7, p8, q8⟩, us, rfl, fill_own XE.out.own XE.out.b2 _ _ _ _ _ _ _ _ _, fill_low XE.out.low (by omega) _ _ _ _ _ _ _ _ _⟩
end Go.Proofs.YtmimhimlgbklpaaDoor.LedW
namespace Go.Proofs.YtmimhimlgbklpaaDoor.LedW
open Go.RowKit Go.Proofs.YtmimhimlgbklpaaDoor.Bas Go.Proofs.YtmimhimlgbklpaaDoor.LedM Go.Proofs.YtmimhimlgbklpaaDoor.FixpM

theorem LedFit.set {l : Led} (hf : LedFit l) {v c : Nat} {x : Int} (hx : FixpW.I64 x) : LedFit (setCash l v c x) := by
  obtain ⟨h0, h1, h2, h3, h4, h5, h6, h7, h8, h9⟩ := hf
  refine ⟨by rw [setCash_len]; exact h0, h1, h2, h3, h4, fun a ha => ?_, h6, h7, h8, h9⟩
  rcases mem_modify (show a ∈ l.accts.modify v _ from ha) with h' | ⟨a0, h', rfl⟩
  · exact h5 a h'
  · obtain ⟨b1, b2, b3, b4⟩ := h5 a0 (List.mem_of_getElem? h')
    refine ⟨b1, b2, fun y hy => ?_, by simpa [putCash] using b4⟩
    rcases List.mem_or_eq_of_mem_set hy with hy | rfl
    · exact b3 y hy
    · exact hx
theorem payF_nofit {l : Led} {cur amount fr to_ : Int} (h1 : endF l cur fr = 0) (h2 : endF l cur to_ = 0) (hn : fits amount = false) : payF l cur amount fr to_ = (zeroLed, 4) := payF_sub h1 h2 (x1 := 0) (by unfold subF; rw [hn, Bool.and_false]; rfl) (by decide)
/-- an account's four cells -/
theorem own_row4 {base : Nat} {W : World} {s : Lists} {l : Led} {us : List (Value × Acc)} (h : LedOwn base W s l us) {k : Nat} (hk : k < us.length) {g : Nat} (ha : s.a4 = some ⟨g, 0, none⟩) (c : Nat) (u : Value) (hu : (accC us[k])[c]? = some u) : W.cell? ⟨g, k * 4 + c, none⟩ = some u := by
  obtain ⟨b, off, h1, h2⟩ := rec_at len_acc (by decide) h.at_.accts hk
  rw [ha] at h1
  cases h1
  have := h2 c u hu
  rwa [Nat.zero_add] at this
theorem fill9_box {W : World} {g : Nat} {t : TypeId} {z0 z1 z2 z3 z4 z5 z6 z7 z8 : Value} (hb : Box W g t #[z0, z1, z2, z3, z4, z5, z6, z7, z8]) (v0 v1 v2 v3 v4 v5 v6 v7 v8 : Value) : Box (((((((((W.setCell ⟨g, 0, none⟩ v0).setCell ⟨g, 1, none⟩ v1).setCell ⟨g, 2, none⟩ v2).setCell ⟨g, 3, none⟩ v3).setCell ⟨g, 4, none⟩ v4).setCell ⟨g, 5, none⟩ v5).setCell ⟨g, 6, none⟩ v6).setCell ⟨g, 7, none⟩ v7).setCell ⟨g, 8, none⟩ v8) g t #[v0, v1, v2, v3, v4, v5, v6, v7, v8] := by
  have := ((((((((hb.set 0 v0).set 1 v1).set 2 v2).set 3 v3).set 4 v4).set 5 v5).set 6 v6).set 7 v7).set 8 v8
  simpa using this
theorem fill9_far {W : World} {g g' : Nat} {t : TypeId} {cs : Array Value} (hb : Box W g' t cs) (h : g' ≠ g) (v0 v1 v2 v3 v4 v5 v6 v7 v8 : Value) : Box (((((((((W.setCell ⟨g, 0, none⟩ v0).setCell ⟨g, 1, none⟩ v1).setCell ⟨g, 2, none⟩ v2).setCell ⟨g, 3, none⟩ v3).setCell ⟨g, 4, none⟩ v4).setCell ⟨g, 5, none⟩ v5).setCell ⟨g, 6, none⟩ v6).setCell ⟨g, 7, none⟩ v7).setCell ⟨g, 8, none⟩ v8) g' t cs :=
  ((((((((hb.far (p := ⟨g, 0, none⟩) h v0).far (p := ⟨g, 1, none⟩) h v1).far (p := ⟨g, 2, none⟩) h v2).far (p := ⟨g, 3, none⟩) h v3).far (p := ⟨g, 4, none⟩) h v4).far (p := ⟨g, 5, none⟩) h v5).far (p := ⟨g, 6, none⟩) h v6).far (p := ⟨g, 7, none⟩) h v7).far (p := ⟨g, 8, none⟩) h v8
theorem give_low {A B : World} {P1 : Int → Prop} {P2 : Int → Lists → List (Value × Acc) → Prop} {P3 : Int → Lists → List (Value × Acc) → Prop} {P4 : Int → Int → Prop} {P5 : Int → Int → Prop} {P6 : Int → Int → Prop}
    (h : (∃ x1, P1 x1 ∧ ∃ s' us, P2 x1 s' us ∧ P3 x1 s' us ∧ Below A.heap.size A B) ∨ (∃ x1 x2, P4 x1 x2 ∧ P5 x1 x2 ∧ P6 x1 x2 ∧ Below A.heap.size A B)) : Below A.heap.size A B := by
  rcases h with ⟨_, _, _, _, _, _, h⟩ | ⟨_, _, _, _, _, h⟩ <;> exact h
set_option maxHeartbeats 4000000 in
set_option maxRecDepth 100000 in
theorem rgive_calls (s : Lists) (l : Led) (vs : List (Value × Acc)) (c v : Nat) (amount : Int) (w : World) (hat : LedAt w s l vs) (hf : LedFit l) (hv : v < l.accts.length) (hc : c < (l.accts[v]).cash.length) :
    Calls Tryd.prog 40 #[ledV s l, .int .i64 (c : Int), .int .i64 amount, .int .i64 (v : Int)] w fun e w' => (∃ x1, addF (cashAt l v c) amount = (x1, 0) ∧ ∃ s' us, e = .returned (.tuple #[.agg #[.int .i64 l.day, .slice s'.a1 l.curs.length s'.c1, .slice s'.a2 l.unders.length s'.c2, .slice s'.a3 l.instrs.length s'.c3, .slice s'.a4 l.accts.length s'.c4, .slice s'.a5 l.poss.length s'.c5, .slice s'.a6 l.orders.length s'.c6, .slice s'.a7 l.avail.length s'.c7, .slice s'.a8 l.locs.length s'.c8], .int .i64 0]) ∧ LedOwn w.heap.size w' s' (setCash l v c x1) us ∧ Below w.heap.size w w') ∨ (∃ x1 x2, addF (cashAt l v c) amount = (x1, x2) ∧ x2 ≠ 0 ∧ e = .returned (.tuple #[ledV s l, .int .i64 x2]) ∧ Below w.heap.size w w') := by
  unfold ledV
  obtain ⟨n1, n2, n3, n4, n5, n6, n7, n8⟩ := hf.len
  have X := (ledH_new w s l vs hat).alloc (.cells zeroL 37)
  have Z := Box.new (w.alloc (.cells #[.int .i64 l.day, .slice s.a1 l.curs.length s.c1, .slice s.a2 l.unders.length s.c2, .slice s.a3 l.instrs.length s.c3, .slice s.a4 l.accts.length s.c4, .slice s.a5 l.poss.length s.c5, .slice s.a6 l.orders.length s.c6, .slice s.a7 l.avail.length s.c7, .slice s.a8 l.locs.length s.c8] 37)) 37 zeroL
  rw [World.size_alloc] at Z
  have HFit := Lib.hid hf
  have HLen := Lib.hid (LedAt.len hat)
  have hI := cash_i64 hf v c
  clear hat hf
  go_enter Tryd.func40, Tryd.ntmps40
  go_upto_region 1 with fail
  change Code.wp _ _ _ _ ((w.alloc (.cells #[.int .i64 l.day, .slice s.a1 l.curs.length s.c1, .slice s.a2 l.unders.length s.c2, .slice s.a3 l.instrs.length s.c3, .slice s.a4 l.accts.length s.c4, .slice s.a5 l.poss.length s.c5, .slice s.a6 l.orders.length s.c6, .slice s.a7 l.avail.length s.c7, .slice s.a8 l.locs.length s.c8] 37)).alloc (.cells zeroL 37))
  generalize ((w.alloc (.cells #[.int .i64 l.day, .slice s.a1 l.curs.length s.c1, .slice s.a2 l.unders.length s.c2, .slice s.a3 l.instrs.length s.c3, .slice s.a4 l.accts.length s.c4, .slice s.a5 l.poss.length s.c5, .slice s.a6 l.orders.length s.c6, .slice s.a7 l.avail.length s.c7, .slice s.a8 l.locs.length s.c8] 37)).alloc (.cells zeroL 37)) = w0 at *
  have HZ := Lib.hid Z
  clear Z
  have hvs : v < vs.length := by rw [HLen.out]; exact hv
  obtain ⟨b, off, hA, C1⟩ := rec_at len_acc (by decide) X.at_.accts hvs
  obtain ⟨ca, cc, hxv, _, hcat⟩ := X.at_.cash _ (List.getElem_mem hvs)
  have hve : vs[v].2 = l.accts[v] := LedAt.acc X.at_ hvs hv
  have hcv : c < vs[v].2.cash.length := by rw [hve]; exact hc
  obtain ⟨cb, coff, rfl, hcm⟩ := hcat c (.int .i64 (vs[v].2.cash.getD c 0)) (i64s_getD _ c hcv)
  have hce : vs[v].2.cash.getD c 0 = cashAt l v c := by rw [cashAt_at hv, hve]
  have hle : vs[v].2.cash.length = (l.accts[v]).cash.length := by rw [hve]
  rw [hce] at hcm
  rw [hle] at hxv
  have d1 := C1 1 _ rfl
  rw [hxv] at d1
  clear C1 hxv hcat hve hcv hce hle
  simp only [← Nat.add_assoc] at d1
  have d4 := X.c4
  rw [hA] at d4
  clear hA
  have XH := Lib.hid X
  clear X
  have S := Lib.hid (FixpR.radd_calls (cashAt l v c) amount w0)
  have HAt0 := Lib.hid XH.out.at_
  generalize hq : addF (cashAt l v c) amount = q at S
  obtain ⟨x1, x2⟩ := q
  have HQ := Lib.hid hq
  clear hq hI
  by_cases hx : x2 = 0
  rotate_left
  · have hxb : (x2 != 0) = true := by simpa using hx
    have HX := Lib.hid hx
    clear hx
    have k0 := XH.out.c0; have k1 := XH.out.c1; have k2 := XH.out.c2; have k3 := XH.out.c3; have k4 := XH.out.c4; have k5 := XH.out.c5; have k6 := XH.out.c6; have k7 := XH.out.c7; have k8 := XH.out.c8
    go_upto_region 3 with (go_at_call 41; refine S.out.mono ?_; rintro e w' ⟨rfl, rfl⟩)
    clear d4
    have f0 : w0.cell? ⟨w.heap.size + 1, 0, none⟩ = some (.int .i64 0) := HZ.out.cell 0
    have r0 : w0.frozen? ⟨w.heap.size + 1, 0, none⟩ = false := HZ.out.frozen 0
    have f1 : w0.cell? ⟨w.heap.size + 1, 1, none⟩ = some (.slice none 0 0) := HZ.out.cell 1
    have r1 : w0.frozen? ⟨w.heap.size + 1, 1, none⟩ = false := HZ.out.frozen 1
    have f2 : w0.cell? ⟨w.heap.size + 1, 2, none⟩ = some (.slice none 0 0) := HZ.out.cell 2
    have r2 : w0.frozen? ⟨w.heap.size + 1, 2, none⟩ = false := HZ.out.frozen 2
    have f3 : w0.cell? ⟨w.heap.size + 1, 3, none⟩ = some (.slice none 0 0) := HZ.out.cell 3
    have r3 : w0.frozen? ⟨w.heap.size + 1, 3, none⟩ = false := HZ.out.frozen 3
    have f4 : w0.cell? ⟨w.heap.size + 1, 4, none⟩ = some (.slice none 0 0) := HZ.out.cell 4
    have r4 : w0.frozen? ⟨w.heap.size + 1, 4, none⟩ = false := HZ.out.frozen 4
    have f5 : w0.cell? ⟨w.heap.size + 1, 5, none⟩ = some (.slice none 0 0) := HZ.out.cell 5
    have r5 : w0.frozen? ⟨w.heap.size + 1, 5, none⟩ = false := HZ.out.frozen 5
    have f6 : w0.cell? ⟨w.heap.size + 1, 6, none⟩ = some (.slice none 0 0) := HZ.out.cell 6
    have r6 : w0.frozen? ⟨w.heap.size + 1, 6, none⟩ = false := HZ.out.frozen 6
    have f7 : w0.cell? ⟨w.heap.size + 1, 7, none⟩ = some (.slice none 0 0) := HZ.out.cell 7
    have r7 : w0.frozen? ⟨w.heap.size + 1, 7, none⟩ = false := HZ.out.frozen 7
    have f8 : w0.cell? ⟨w.heap.size + 1, 8, none⟩ = some (.slice none 0 0) := HZ.out.cell 8
    have r8 : w0.frozen? ⟨w.heap.size + 1, 8, none⟩ = false := HZ.out.frozen 8
    go_wp2_with fail
    clear f0 r0 f1 r1 f2 r2 f3 r3 f4 r4 f5 r5 f6 r6 f7 r7 f8 r8
    clear k0 k1 k2 k3 k4 k5 k6 k7 k8
    exact bodyPost_ret (results_cell_slot (by rfl) _ _ (fill_box HZ.out _ _ _ _ _ _ _ _ _) Tryd.underlying37 rfl (by kernel_rfl) rfl) rfl (.inr ⟨x1, x2, HQ.out, HX.out, rfl, fill_low XH.out.low (by omega) _ _ _ _ _ _ _ _ _⟩)
  subst hx
  go_upto_region 4 with (go_at_call 41; refine S.out.mono ?_; rintro e w' ⟨rfl, rfl⟩)
  clear d1 d4 hcm S
  have C := Lib.hid (rcopy_calls s l vs w0 XH.out.at_ HFit.out)
  unfold ledV at C
  have k0 := XH.out.c0; have k1 := XH.out.c1; have k2 := XH.out.c2; have k3 := XH.out.c3; have k4 := XH.out.c4; have k5 := XH.out.c5; have k6 := XH.out.c6; have k7 := XH.out.c7; have k8 := XH.out.c8
  go_upto_region 5 with (go_at_call 11; refine C.out.mono ?_; rintro e w1 ⟨s', us, rfl, own, b1⟩)
  clear k0 k1 k2 k3 k4 k5 k6 k7 k8
  have B14 := Box.new w1 37 #[.int .i64 l.day, .slice s'.a1 l.curs.length s'.c1, .slice s'.a2 l.unders.length s'.c2, .slice s'.a3 l.instrs.length s'.c3, .slice s'.a4 l.accts.length s'.c4, .slice s'.a5 l.poss.length s'.c5, .slice s'.a6 l.orders.length s'.c6, .slice s'.a7 l.avail.length s'.c7, .slice s'.a8 l.locs.length s'.c8]
  have Z2 := (HZ.out.keep b1).alloc (.cells #[.int .i64 l.day, .slice s'.a1 l.curs.length s'.c1, .slice s'.a2 l.unders.length s'.c2, .slice s'.a3 l.instrs.length s'.c3, .slice s'.a4 l.accts.length s'.c4, .slice s'.a5 l.poss.length s'.c5, .slice s'.a6 l.orders.length s'.c6, .slice s'.a7 l.avail.length s'.c7, .slice s'.a8 l.locs.length s'.c8] 37)
  have O2 := (own.mono XH.out.low.size).below ((Below.refl _ _).alloc (Nat.le_refl _) (.cells #[.int .i64 l.day, .slice s'.a1 l.curs.length s'.c1, .slice s'.a2 l.unders.length s'.c2, .slice s'.a3 l.instrs.length s'.c3, .slice s'.a4 l.accts.length s'.c4, .slice s'.a5 l.poss.length s'.c5, .slice s'.a6 l.orders.length s'.c6, .slice s'.a7 l.avail.length s'.c7, .slice s'.a8 l.locs.length s'.c8] 37))
  have L1 := XH.out.low.trans (b1.mono XH.out.low.size)
  have hlow := L1.size
  have hne : w.heap.size + 1 ≠ w1.heap.size := by have := HZ.out.lt; have := b1.size; omega
  have L2 := L1.alloc L1.size (.cells #[.int .i64 l.day, .slice s'.a1 l.curs.length s'.c1, .slice s'.a2 l.unders.length s'.c2, .slice s'.a3 l.instrs.length s'.c3, .slice s'.a4 l.accts.length s'.c4, .slice s'.a5 l.poss.length s'.c5, .slice s'.a6 l.orders.length s'.c6, .slice s'.a7 l.avail.length s'.c7, .slice s'.a8 l.locs.length s'.c8] 37)
  clear own b1 XH C L1 HZ
  generalize w1.alloc (.cells #[.int .i64 l.day, .slice s'.a1 l.curs.length s'.c1, .slice s'.a2 l.unders.length s'.c2, .slice s'.a3 l.instrs.length s'.c3, .slice s'.a4 l.accts.length s'.c4, .slice s'.a5 l.poss.length s'.c5, .slice s'.a6 l.orders.length s'.c6, .slice s'.a7 l.avail.length s'.c7, .slice s'.a8 l.locs.length s'.c8] 37) = w2 at *
  generalize w1.heap.size = g14 at *
  obtain ⟨g4, h4⟩ := O2.addr (by omega)
  have hvu : v < us.length := by rw [O2.len]; exact hv
  have ev : us[v].2 = l.accts[v] := O2.acc hvu hv
  have d0 := own_row4 O2 hvu h4 0 _ rfl
  have d1 := own_row4 O2 hvu h4 1 _ rfl
  have d2 := own_row4 O2 hvu h4 2 _ rfl
  have d3 := own_row4 O2 hvu h4 3 _ rfl
  obtain ⟨g, cap, e1, hg1, hg2, _, _, _⟩ := O2.row hvu hv hc
  rw [e1] at d1
  rw [ev] at d0 d2 d3
  rw [Nat.add_zero] at d0
  have d4 : w2.cell? ⟨g14, 4, none⟩ = some (.slice s'.a4 l.accts.length s'.c4) := B14.cell 4
  rw [h4] at d4
  have HB := Lib.hid B14
  have HZ2 := Lib.hid Z2
  have HO := Lib.hid O2
  have HL := Lib.hid L2
  have HE1 := Lib.hid e1
  have H4 := Lib.hid h4
  clear B14 Z2 O2 L2 e1 h4 ev
  go_upto_region 6 with fail
  clear d0 d1 d2 d3 d4
  have o5 := HO.out.below ((Below.refl _ _).alloc (Nat.le_refl _) (.cells #[.int .i64 (l.accts[v]).parent, .slice (some ⟨g, 0, none⟩) (l.accts[v]).cash.length cap, .bool (l.accts[v]).flag, .int .i64 (l.accts[v]).last] 51))
  have B5 := HB.out.alloc (.cells #[.int .i64 (l.accts[v]).parent, .slice (some ⟨g, 0, none⟩) (l.accts[v]).cash.length cap, .bool (l.accts[v]).flag, .int .i64 (l.accts[v]).last] 51)
  have Z5 := HZ2.out.alloc (.cells #[.int .i64 (l.accts[v]).parent, .slice (some ⟨g, 0, none⟩) (l.accts[v]).cash.length cap, .bool (l.accts[v]).flag, .int .i64 (l.accts[v]).last] 51)
  have L5 := HL.out.alloc HL.out.size (.cells #[.int .i64 (l.accts[v]).parent, .slice (some ⟨g, 0, none⟩) (l.accts[v]).cash.length cap, .bool (l.accts[v]).flag, .int .i64 (l.accts[v]).last] 51)
  have B6 := Box.new w2 51 #[.int .i64 (l.accts[v]).parent, .slice (some ⟨g, 0, none⟩) (l.accts[v]).cash.length cap, .bool (l.accts[v]).flag, .int .i64 (l.accts[v]).last]
  have hg5 : g < (w2.alloc (.cells #[.int .i64 (l.accts[v]).parent, .slice (some ⟨g, 0, none⟩) (l.accts[v]).cash.length cap, .bool (l.accts[v]).flag, .int .i64 (l.accts[v]).last] 51)).heap.size := by rw [World.size_alloc]; omega
  clear HO HB HZ2 HL hg2
  obtain ⟨g6, e6⟩ : ∃ g, g = w2.heap.size := ⟨_, rfl⟩
  rw [← e6] at B6 ⊢
  clear e6
  generalize w2.alloc (.cells #[.int .i64 (l.accts[v]).parent, .slice (some ⟨g, 0, none⟩) (l.accts[v]).cash.length cap, .bool (l.accts[v]).flag, .int .i64 (l.accts[v]).last] 51) = w5 at *
  obtain ⟨gg, cap', e1', _, _, kc, kf, HP⟩ := o5.row hvu hv hc
  have e1'' := HE1.out
  rw [e1'] at e1''
  cases e1''
  have hgb : g ≠ g14 ∧ g ≠ w.heap.size + 1 := own_not o5 hvu e1' B5 Z5
  have d1 : w5.cell? ⟨g6, 1, none⟩ = some (.slice (some ⟨g, 0, none⟩) (l.accts[v]).cash.length cap) := B6.cell 1
  have O6 := Lib.hid (HP x1)
  have B7 := Lib.hid (B5.far (p := ⟨g, c, none⟩) (fun e => hgb.1 e.symm) (.int .i64 x1))
  have Z7 := Lib.hid (Z5.far (p := ⟨g, c, none⟩) (fun e => hgb.2 e.symm) (.int .i64 x1))
  have L7 := Lib.hid (L5.setCell (p := ⟨g, c, none⟩) hg1 (.int .i64 x1))
  clear o5 B5 Z5 L5 B6 HP e1' HE1 H4 hgb hg5
  go_upto_region 7 with fail
  clear d1 kc kf
  generalize w5.setCell ⟨g, c, none⟩ (.int .i64 x1) = w7 at *
  have e0 : w7.cell? ⟨g14, 0, none⟩ = some (.int .i64 l.day) := B7.out.cell 0
  have e1 : w7.cell? ⟨g14, 1, none⟩ = some (.slice s'.a1 l.curs.length s'.c1) := B7.out.cell 1
  have e2 : w7.cell? ⟨g14, 2, none⟩ = some (.slice s'.a2 l.unders.length s'.c2) := B7.out.cell 2
  have e3 : w7.cell? ⟨g14, 3, none⟩ = some (.slice s'.a3 l.instrs.length s'.c3) := B7.out.cell 3
  have e4 : w7.cell? ⟨g14, 4, none⟩ = some (.slice s'.a4 l.accts.length s'.c4) := B7.out.cell 4
  have e5 : w7.cell? ⟨g14, 5, none⟩ = some (.slice s'.a5 l.poss.length s'.c5) := B7.out.cell 5
  have e6 : w7.cell? ⟨g14, 6, none⟩ = some (.slice s'.a6 l.orders.length s'.c6) := B7.out.cell 6
  have e7 : w7.cell? ⟨g14, 7, none⟩ = some (.slice s'.a7 l.avail.length s'.c7) := B7.out.cell 7
  have e8 : w7.cell? ⟨g14, 8, none⟩ = some (.slice s'.a8 l.locs.length s'.c8) := B7.out.cell 8
  have f0 : w7.cell? ⟨w.heap.size + 1, 0, none⟩ = some (.int .i64 0) := Z7.out.cell 0
  have r0 : w7.frozen? ⟨w.heap.size + 1, 0, none⟩ = false := Z7.out.frozen 0
  have f1 : w7.cell? ⟨w.heap.size + 1, 1, none⟩ = some (.slice none 0 0) := Z7.out.cell 1
  have r1 : w7.frozen? ⟨w.heap.size + 1, 1, none⟩ = false := Z7.out.frozen 1
  have f2 : w7.cell? ⟨w.heap.size + 1, 2, none⟩ = some (.slice none 0 0) := Z7.out.cell 2
  have r2 : w7.frozen? ⟨w.heap.size + 1, 2, none⟩ = false := Z7.out.frozen 2
  have f3 : w7.cell? ⟨w.heap.size + 1, 3, none⟩ = some (.slice none 0 0) := Z7.out.cell 3
  have r3 : w7.frozen? ⟨w.heap.size + 1, 3, none⟩ = false := Z7.out.frozen 3
  have f4 : w7.cell? ⟨w.heap.size + 1, 4, none⟩ = some (.slice none 0 0) := Z7.out.cell 4
  have r4 : w7.frozen? ⟨w.heap.size + 1, 4, none⟩ = false := Z7.out.frozen 4
  have f5 : w7.cell? ⟨w.heap.size + 1, 5, none⟩ = some (.slice none 0 0) := Z7.out.cell 5
  have r5 : w7.frozen? ⟨w.heap.size + 1, 5, none⟩ = false := Z7.out.frozen 5
  have f6 : w7.cell? ⟨w.heap.size + 1, 6, none⟩ = some (.slice none 0 0) := Z7.out.cell 6
  have r6 : w7.frozen? ⟨w.heap.size + 1, 6, none⟩ = false := Z7.out.frozen 6
  have f7 : w7.cell? ⟨w.heap.size + 1, 7, none⟩ = some (.slice none 0 0) := Z7.out.cell 7
  have r7 : w7.frozen? ⟨w.heap.size + 1, 7, none⟩ = false := Z7.out.frozen 7
  have f8 : w7.cell? ⟨w.heap.size + 1, 8, none⟩ = some (.slice none 0 0) := Z7.out.cell 8
  have r8 : w7.frozen? ⟨w.heap.size + 1, 8, none⟩ = false := Z7.out.frozen 8
  go_wp2_with fail
  clear f0 r0 f1 r1 f2 r2 f3 r3 f4 r4 f5 r5 f6 r6 f7 r7 f8 r8
  clear e0 e1 e2 e3 e4 e5 e6 e7 e8
  exact bodyPost_ret (results_cell_slot (by rfl) _ _ (fill_box Z7.out _ _ _ _ _ _ _ _ _) Tryd.underlying37 rfl (by kernel_rfl) rfl) rfl (.inl ⟨x1, HQ.out, s', _, rfl, fill_own O6.out Z7.out _ _ _ _ _ _ _ _ _, fill_low L7.out (by omega) _ _ _ _ _ _ _ _ _⟩)
set_option maxHeartbeats 8000000 in
set_option maxRecDepth 100000 in
theorem rpay_calls (s : Lists) (l : Led) (vs : List (Value × Acc)) (cur amount fr to_ : Int) (w : World) (hat : LedAt w s l vs) (hf : LedFit l) :
    Calls Tryd.prog 16 #[ledV s l, .int .i64 cur, .int .i64 amount, .int .i64 fr, .int .i64 to_] w fun e w' => ∃ s' l' us er, e = .returned (.tuple #[ledV s' l', .int .i64 er]) ∧ payF l cur amount fr to_ = (l', er) ∧ LedOwn w.heap.size w' s' l' us ∧ Below w.heap.size w w' := by
  unfold ledV
  obtain ⟨n1, n2, n3, n4, n5, n6, n7, n8⟩ := hf.len
  have X := (ledH_new w s l vs hat).alloc (.cells zeroL 37)
  have Z := Box.new (w.alloc (.cells #[.int .i64 l.day, .slice s.a1 l.curs.length s.c1, .slice s.a2 l.unders.length s.c2, .slice s.a3 l.instrs.length s.c3, .slice s.a4 l.accts.length s.c4, .slice s.a5 l.poss.length s.c5, .slice s.a6 l.orders.length s.c6, .slice s.a7 l.avail.length s.c7, .slice s.a8 l.locs.length s.c8] 37)) 37 zeroL
  rw [World.size_alloc] at Z
  have HFit := Lib.hid hf
  have HLen := Lib.hid (LedAt.len hat)
  clear hat hf
  go_enter Tryd.func16, Tryd.ntmps16
  go_upto_region 1 with fail
  change Code.wp _ _ _ _ ((w.alloc (.cells #[.int .i64 l.day, .slice s.a1 l.curs.length s.c1, .slice s.a2 l.unders.length s.c2, .slice s.a3 l.instrs.length s.c3, .slice s.a4 l.accts.length s.c4, .slice s.a5 l.poss.length s.c5, .slice s.a6 l.orders.length s.c6, .slice s.a7 l.avail.length s.c7, .slice s.a8 l.locs.length s.c8] 37)).alloc (.cells zeroL 37))
  generalize ((w.alloc (.cells #[.int .i64 l.day, .slice s.a1 l.curs.length s.c1, .slice s.a2 l.unders.length s.c2, .slice s.a3 l.instrs.length s.c3, .slice s.a4 l.accts.length s.c4, .slice s.a5 l.poss.length s.c5, .slice s.a6 l.orders.length s.c6, .slice s.a7 l.avail.length s.c7, .slice s.a8 l.locs.length s.c8] 37)).alloc (.cells zeroL 37)) = w0 at *
  have HZ := Lib.hid Z
  have XH := Lib.hid X
  clear Z X
  have d4 := XH.out.c4
  by_cases h1 : 0 ≤ fr ∧ fr < l.accts.length
  rotate_left
  · have HP : Hid (payF l cur amount fr to_ = (zeroLed, 33)) := payF_bad1 (endF_acct h1) (by decide)
    by_cases h0 : fr < 0
    · clear h1
      have f0 : w0.cell? ⟨w.heap.size + 1, 0, none⟩ = some (.int .i64 0) := HZ.out.cell 0
      have r0 : w0.frozen? ⟨w.heap.size + 1, 0, none⟩ = false := HZ.out.frozen 0
      have f1 : w0.cell? ⟨w.heap.size + 1, 1, none⟩ = some (.slice none 0 0) := HZ.out.cell 1
      have r1 : w0.frozen? ⟨w.heap.size + 1, 1, none⟩ = false := HZ.out.frozen 1
      have f2 : w0.cell? ⟨w.heap.size + 1, 2, none⟩ = some (.slice none 0 0) := HZ.out.cell 2
      have r2 : w0.frozen? ⟨w.heap.size + 1, 2, none⟩ = false := HZ.out.frozen 2
      have f3 : w0.cell? ⟨w.heap.size + 1, 3, none⟩ = some (.slice none 0 0) := HZ.out.cell 3
      have r3 : w0.frozen? ⟨w.heap.size + 1, 3, none⟩ = false := HZ.out.frozen 3
      have f4 : w0.cell? ⟨w.heap.size + 1, 4, none⟩ = some (.slice none 0 0) := HZ.out.cell 4
      have r4 : w0.frozen? ⟨w.heap.size + 1, 4, none⟩ = false := HZ.out.frozen 4
      have f5 : w0.cell? ⟨w.heap.size + 1, 5, none⟩ = some (.slice none 0 0) := HZ.out.cell 5
      have r5 : w0.frozen? ⟨w.heap.size + 1, 5, none⟩ = false := HZ.out.frozen 5
      have f6 : w0.cell? ⟨w.heap.size + 1, 6, none⟩ = some (.slice none 0 0) := HZ.out.cell 6
      have r6 : w0.frozen? ⟨w.heap.size + 1, 6, none⟩ = false := HZ.out.frozen 6
      have f7 : w0.cell? ⟨w.heap.size + 1, 7, none⟩ = some (.slice none 0 0) := HZ.out.cell 7
      have r7 : w0.frozen? ⟨w.heap.size + 1, 7, none⟩ = false := HZ.out.frozen 7
      have f8 : w0.cell? ⟨w.heap.size + 1, 8, none⟩ = some (.slice none 0 0) := HZ.out.cell 8
      have r8 : w0.frozen? ⟨w.heap.size + 1, 8, none⟩ = false := HZ.out.frozen 8
      go_wp2_with fail
      clear f0 r0 f1 r1 f2 r2 f3 r3 f4 r4 f5 r5 f6 r6 f7 r7 f8 r8
      exact bodyPost_ret (results_cell_slot (by rfl) _ _ (fill_box HZ.out _ _ _ _ _ _ _ _ _) Tryd.underlying37 rfl (by kernel_rfl) rfl) rfl ⟨zeroS, zeroLed, [], 33, rfl, HP.out, zero_own _ _, fill_low XH.out.low (by omega) _ _ _ _ _ _ _ _ _⟩
    · have hge : (l.accts.length : Int) ≤ fr := by omega
      clear h1
      have f0 : w0.cell? ⟨w.heap.size + 1, 0, none⟩ = some (.int .i64 0) := HZ.out.cell 0
      have r0 : w0.frozen? ⟨w.heap.size + 1, 0, none⟩ = false := HZ.out.frozen 0
      have f1 : w0.cell? ⟨w.heap.size + 1, 1, none⟩ = some (.slice none 0 0) := HZ.out.cell 1
      have r1 : w0.frozen? ⟨w.heap.size + 1, 1, none⟩ = false := HZ.out.frozen 1
      have f2 : w0.cell? ⟨w.heap.size + 1, 2, none⟩ = some (.slice none 0 0) := HZ.out.cell 2
      have r2 : w0.frozen? ⟨w.heap.size + 1, 2, none⟩ = false := HZ.out.frozen 2
      have f3 : w0.cell? ⟨w.heap.size + 1, 3, none⟩ = some (.slice none 0 0) := HZ.out.cell 3
      have r3 : w0.frozen? ⟨w.heap.size + 1, 3, none⟩ = false := HZ.out.frozen 3
      have f4 : w0.cell? ⟨w.heap.size + 1, 4, none⟩ = some (.slice none 0 0) := HZ.out.cell 4
      have r4 : w0.frozen? ⟨w.heap.size + 1, 4, none⟩ = false := HZ.out.frozen 4
      have f5 : w0.cell? ⟨w.heap.size + 1, 5, none⟩ = some (.slice none 0 0) := HZ.out.cell 5
      have r5 : w0.frozen? ⟨w.heap.size + 1, 5, none⟩ = false := HZ.out.frozen 5
      have f6 : w0.cell? ⟨w.heap.size + 1, 6, none⟩ = some (.slice none 0 0) := HZ.out.cell 6
      have r6 : w0.frozen? ⟨w.heap.size + 1, 6, none⟩ = false := HZ.out.frozen 6
      have f7 : w0.cell? ⟨w.heap.size + 1, 7, none⟩ = some (.slice none 0 0) := HZ.out.cell 7
      have r7 : w0.frozen? ⟨w.heap.size + 1, 7, none⟩ = false := HZ.out.frozen 7
      have f8 : w0.cell? ⟨w.heap.size + 1, 8, none⟩ = some (.slice none 0 0) := HZ.out.cell 8
      have r8 : w0.frozen? ⟨w.heap.size + 1, 8, none⟩ = false := HZ.out.frozen 8
      go_wp2_with fail
      clear f0 r0 f1 r1 f2 r2 f3 r3 f4 r4 f5 r5 f6 r6 f7 r7 f8 r8
      exact bodyPost_ret (results_cell_slot (by rfl) _ _ (fill_box HZ.out _ _ _ _ _ _ _ _ _) Tryd.underlying37 rfl (by kernel_rfl) rfl) rfl ⟨zeroS, zeroLed, [], 33, rfl, HP.out, zero_own _ _, fill_low XH.out.low (by omega) _ _ _ _ _ _ _ _ _⟩
  obtain ⟨m, rfl⟩ : ∃ k : Nat, fr = k := ⟨fr.toNat, by omega⟩
  have hml : m < l.accts.length := by omega
  have hmv : m < vs.length := by rw [HLen.out]; exact hml
  obtain ⟨bm, offm, hAm, C1⟩ := rec_at len_acc (by decide) XH.out.at_.accts hmv
  obtain ⟨cam, ccm, hxm, _, _⟩ := XH.out.at_.cash _ (List.getElem_mem hmv)
  have dm := C1 1 _ rfl
  rw [hxm, LedAt.acc XH.out.at_ hmv hml] at dm
  simp only [← Nat.add_assoc] at dm
  clear C1 hxm
  rw [hAm] at d4
  have HA := Lib.hid hAm
  clear hAm
  by_cases hc1 : 0 ≤ cur ∧ cur < (l.accts[m]).cash.length
  rotate_left
  · have HP : Hid (payF l cur amount (m : Int) to_ = (zeroLed, 30)) := payF_bad1 (endF_cur h1 (by simp only [Int.toNat_natCast]; rw [cashLen_at hml]; exact hc1)) (by decide)
    by_cases h0 : cur < 0
    · clear hc1
      have f0 : w0.cell? ⟨w.heap.size + 1, 0, none⟩ = some (.int .i64 0) := HZ.out.cell 0
      have r0 : w0.frozen? ⟨w.heap.size + 1, 0, none⟩ = false := HZ.out.frozen 0
      have f1 : w0.cell? ⟨w.heap.size + 1, 1, none⟩ = some (.slice none 0 0) := HZ.out.cell 1
      have r1 : w0.frozen? ⟨w.heap.size + 1, 1, none⟩ = false := HZ.out.frozen 1
      have f2 : w0.cell? ⟨w.heap.size + 1, 2, none⟩ = some (.slice none 0 0) := HZ.out.cell 2
      have r2 : w0.frozen? ⟨w.heap.size + 1, 2, none⟩ = false := HZ.out.frozen 2
      have f3 : w0.cell? ⟨w.heap.size + 1, 3, none⟩ = some (.slice none 0 0) := HZ.out.cell 3
      have r3 : w0.frozen? ⟨w.heap.size + 1, 3, none⟩ = false := HZ.out.frozen 3
      have f4 : w0.cell? ⟨w.heap.size + 1, 4, none⟩ = some (.slice none 0 0) := HZ.out.cell 4
      have r4 : w0.frozen? ⟨w.heap.size + 1, 4, none⟩ = false := HZ.out.frozen 4
      have f5 : w0.cell? ⟨w.heap.size + 1, 5, none⟩ = some (.slice none 0 0) := HZ.out.cell 5
      have r5 : w0.frozen? ⟨w.heap.size + 1, 5, none⟩ = false := HZ.out.frozen 5
      have f6 : w0.cell? ⟨w.heap.size + 1, 6, none⟩ = some (.slice none 0 0) := HZ.out.cell 6
      have r6 : w0.frozen? ⟨w.heap.size + 1, 6, none⟩ = false := HZ.out.frozen 6
      have f7 : w0.cell? ⟨w.heap.size + 1, 7, none⟩ = some (.slice none 0 0) := HZ.out.cell 7
      have r7 : w0.frozen? ⟨w.heap.size + 1, 7, none⟩ = false := HZ.out.frozen 7
      have f8 : w0.cell? ⟨w.heap.size + 1, 8, none⟩ = some (.slice none 0 0) := HZ.out.cell 8
      have r8 : w0.frozen? ⟨w.heap.size + 1, 8, none⟩ = false := HZ.out.frozen 8
      go_wp2_with fail
      clear f0 r0 f1 r1 f2 r2 f3 r3 f4 r4 f5 r5 f6 r6 f7 r7 f8 r8
      exact bodyPost_ret (results_cell_slot (by rfl) _ _ (fill_box HZ.out _ _ _ _ _ _ _ _ _) Tryd.underlying37 rfl (by kernel_rfl) rfl) rfl ⟨zeroS, zeroLed, [], 30, rfl, HP.out, zero_own _ _, fill_low XH.out.low (by omega) _ _ _ _ _ _ _ _ _⟩
    · have hge : ((l.accts[m]).cash.length : Int) ≤ cur := by omega
      clear hc1
      have f0 : w0.cell? ⟨w.heap.size + 1, 0, none⟩ = some (.int .i64 0) := HZ.out.cell 0
      have r0 : w0.frozen? ⟨w.heap.size + 1, 0, none⟩ = false := HZ.out.frozen 0
      have f1 : w0.cell? ⟨w.heap.size + 1, 1, none⟩ = some (.slice none 0 0) := HZ.out.cell 1
      have r1 : w0.frozen? ⟨w.heap.size + 1, 1, none⟩ = false := HZ.out.frozen 1
      have f2 : w0.cell? ⟨w.heap.size + 1, 2, none⟩ = some (.slice none 0 0) := HZ.out.cell 2
      have r2 : w0.frozen? ⟨w.heap.size + 1, 2, none⟩ = false := HZ.out.frozen 2
      have f3 : w0.cell? ⟨w.heap.size + 1, 3, none⟩ = some (.slice none 0 0) := HZ.out.cell 3
      have r3 : w0.frozen? ⟨w.heap.size + 1, 3, none⟩ = false := HZ.out.frozen 3
      have f4 : w0.cell? ⟨w.heap.size + 1, 4, none⟩ = some (.slice none 0 0) := HZ.out.cell 4
      have r4 : w0.frozen? ⟨w.heap.size + 1, 4, none⟩ = false := HZ.out.frozen 4
      have f5 : w0.cell? ⟨w.heap.size + 1, 5, none⟩ = some (.slice none 0 0) := HZ.out.cell 5
      have r5 : w0.frozen? ⟨w.heap.size + 1, 5, none⟩ = false := HZ.out.frozen 5
      have f6 : w0.cell? ⟨w.heap.size + 1, 6, none⟩ = some (.slice none 0 0) := HZ.out.cell 6
      have r6 : w0.frozen? ⟨w.heap.size + 1, 6, none⟩ = false := HZ.out.frozen 6
      have f7 : w0.cell? ⟨w.heap.size + 1, 7, none⟩ = some (.slice none 0 0) := HZ.out.cell 7
      have r7 : w0.frozen? ⟨w.heap.size + 1, 7, none⟩ = false := HZ.out.frozen 7
      have f8 : w0.cell? ⟨w.heap.size + 1, 8, none⟩ = some (.slice none 0 0) := HZ.out.cell 8
      have r8 : w0.frozen? ⟨w.heap.size + 1, 8, none⟩ = false := HZ.out.frozen 8
      go_wp2_with fail
      clear f0 r0 f1 r1 f2 r2 f3 r3 f4 r4 f5 r5 f6 r6 f7 r7 f8 r8
      exact bodyPost_ret (results_cell_slot (by rfl) _ _ (fill_box HZ.out _ _ _ _ _ _ _ _ _) Tryd.underlying37 rfl (by kernel_rfl) rfl) rfl ⟨zeroS, zeroLed, [], 30, rfl, HP.out, zero_own _ _, fill_low XH.out.low (by omega) _ _ _ _ _ _ _ _ _⟩
  obtain ⟨c, rfl⟩ : ∃ k : Nat, cur = k := ⟨cur.toNat, by omega⟩
  have hcm : c < (l.accts[m]).cash.length := by omega
  have H1 : Hid (endF l (c : Int) (m : Int) = 0) := endF_zero h1 (by simp only [Int.toNat_natCast]; rw [cashLen_at hml]; exact hc1)
  by_cases h2 : 0 ≤ to_ ∧ to_ < l.accts.length
  rotate_left
  · have HP : Hid (payF l (c : Int) amount (m : Int) to_ = (zeroLed, 33)) := payF_bad2 H1.out (endF_acct h2) (by decide)
    by_cases h0 : to_ < 0
    · clear h2
      have f0 : w0.cell? ⟨w.heap.size + 1, 0, none⟩ = some (.int .i64 0) := HZ.out.cell 0
      have r0 : w0.frozen? ⟨w.heap.size + 1, 0, none⟩ = false := HZ.out.frozen 0
      have f1 : w0.cell? ⟨w.heap.size + 1, 1, none⟩ = some (.slice none 0 0) := HZ.out.cell 1
      have r1 : w0.frozen? ⟨w.heap.size + 1, 1, none⟩ = false := HZ.out.frozen 1
      have f2 : w0.cell? ⟨w.heap.size + 1, 2, none⟩ = some (.slice none 0 0) := HZ.out.cell 2
      have r2 : w0.frozen? ⟨w.heap.size + 1, 2, none⟩ = false := HZ.out.frozen 2
      have f3 : w0.cell? ⟨w.heap.size + 1, 3, none⟩ = some (.slice none 0 0) := HZ.out.cell 3
      have r3 : w0.frozen? ⟨w.heap.size + 1, 3, none⟩ = false := HZ.out.frozen 3
      have f4 : w0.cell? ⟨w.heap.size + 1, 4, none⟩ = some (.slice none 0 0) := HZ.out.cell 4
      have r4 : w0.frozen? ⟨w.heap.size + 1, 4, none⟩ = false := HZ.out.frozen 4
      have f5 : w0.cell? ⟨w.heap.size + 1, 5, none⟩ = some (.slice none 0 0) := HZ.out.cell 5
      have r5 : w0.frozen? ⟨w.heap.size + 1, 5, none⟩ = false := HZ.out.frozen 5
      have f6 : w0.cell? ⟨w.heap.size + 1, 6, none⟩ = some (.slice none 0 0) := HZ.out.cell 6
      have r6 : w0.frozen? ⟨w.heap.size + 1, 6, none⟩ = false := HZ.out.frozen 6
      have f7 : w0.cell? ⟨w.heap.size + 1, 7, none⟩ = some (.slice none 0 0) := HZ.out.cell 7
      have r7 : w0.frozen? ⟨w.heap.size + 1, 7, none⟩ = false := HZ.out.frozen 7
      have f8 : w0.cell? ⟨w.heap.size + 1, 8, none⟩ = some (.slice none 0 0) := HZ.out.cell 8
      have r8 : w0.frozen? ⟨w.heap.size + 1, 8, none⟩ = false := HZ.out.frozen 8
      go_wp2_with fail
      clear f0 r0 f1 r1 f2 r2 f3 r3 f4 r4 f5 r5 f6 r6 f7 r7 f8 r8
      exact bodyPost_ret (results_cell_slot (by rfl) _ _ (fill_box HZ.out _ _ _ _ _ _ _ _ _) Tryd.underlying37 rfl (by kernel_rfl) rfl) rfl ⟨zeroS, zeroLed, [], 33, rfl, HP.out, zero_own _ _, fill_low XH.out.low (by omega) _ _ _ _ _ _ _ _ _⟩
    · have hge : (l.accts.length : Int) ≤ to_ := by omega
      clear h2
      have f0 : w0.cell? ⟨w.heap.size + 1, 0, none⟩ = some (.int .i64 0) := HZ.out.cell 0
      have r0 : w0.frozen? ⟨w.heap.size + 1, 0, none⟩ = false := HZ.out.frozen 0
      have f1 : w0.cell? ⟨w.heap.size + 1, 1, none⟩ = some (.slice none 0 0) := HZ.out.cell 1
      have r1 : w0.frozen? ⟨w.heap.size + 1, 1, none⟩ = false := HZ.out.frozen 1
      have f2 : w0.cell? ⟨w.heap.size + 1, 2, none⟩ = some (.slice none 0 0) := HZ.out.cell 2
      have r2 : w0.frozen? ⟨w.heap.size + 1, 2, none⟩ = false := HZ.out.frozen 2
      have f3 : w0.cell? ⟨w.heap.size + 1, 3, none⟩ = some (.slice none 0 0) := HZ.out.cell 3
      have r3 : w0.frozen? ⟨w.heap.size + 1, 3, none⟩ = false := HZ.out.frozen 3
      have f4 : w0.cell? ⟨w.heap.size + 1, 4, none⟩ = some (.slice none 0 0) := HZ.out.cell 4
      have r4 : w0.frozen? ⟨w.heap.size + 1, 4, none⟩ = false := HZ.out.frozen 4
      have f5 : w0.cell? ⟨w.heap.size + 1, 5, none⟩ = some (.slice none 0 0) := HZ.out.cell 5
      have r5 : w0.frozen? ⟨w.heap.size + 1, 5, none⟩ = false := HZ.out.frozen 5
      have f6 : w0.cell? ⟨w.heap.size + 1, 6, none⟩ = some (.slice none 0 0) := HZ.out.cell 6
      have r6 : w0.frozen? ⟨w.heap.size + 1, 6, none⟩ = false := HZ.out.frozen 6
      have f7 : w0.cell? ⟨w.heap.size + 1, 7, none⟩ = some (.slice none 0 0) := HZ.out.cell 7
      have r7 : w0.frozen? ⟨w.heap.size + 1, 7, none⟩ = false := HZ.out.frozen 7
      have f8 : w0.cell? ⟨w.heap.size + 1, 8, none⟩ = some (.slice none 0 0) := HZ.out.cell 8
      have r8 : w0.frozen? ⟨w.heap.size + 1, 8, none⟩ = false := HZ.out.frozen 8
      go_wp2_with fail
      clear f0 r0 f1 r1 f2 r2 f3 r3 f4 r4 f5 r5 f6 r6 f7 r7 f8 r8
      exact bodyPost_ret (results_cell_slot (by rfl) _ _ (fill_box HZ.out _ _ _ _ _ _ _ _ _) Tryd.underlying37 rfl (by kernel_rfl) rfl) rfl ⟨zeroS, zeroLed, [], 33, rfl, HP.out, zero_own _ _, fill_low XH.out.low (by omega) _ _ _ _ _ _ _ _ _⟩
  obtain ⟨t, rfl⟩ : ∃ k : Nat, to_ = k := ⟨to_.toNat, by omega⟩
  have htl : t < l.accts.length := by omega
  have htv : t < vs.length := by rw [HLen.out]; exact htl
  obtain ⟨bt, offt, hAt, C1⟩ := rec_at len_acc (by decide) XH.out.at_.accts htv
  obtain ⟨cat, cct, hxt, _, _⟩ := XH.out.at_.cash _ (List.getElem_mem htv)
  have dt := C1 1 _ rfl
  rw [hxt, LedAt.acc XH.out.at_ htv htl] at dt
  simp only [← Nat.add_assoc] at dt
  clear C1 hxt
  rw [HA.out] at hAt
  cases hAt
  by_cases hc2 : (c : Int) < (l.accts[t]).cash.length
  rotate_left
  · have HP : Hid (payF l (c : Int) amount (m : Int) (t : Int) = (zeroLed, 30)) := payF_bad2 H1.out (endF_cur h2 (by simp only [Int.toNat_natCast]; rw [cashLen_at htl]; omega)) (by decide)
    have hge : ((l.accts[t]).cash.length : Int) ≤ (c : Int) := by omega
    clear hc2
    have f0 : w0.cell? ⟨w.heap.size + 1, 0, none⟩ = some (.int .i64 0) := HZ.out.cell 0
    have r0 : w0.frozen? ⟨w.heap.size + 1, 0, none⟩ = false := HZ.out.frozen 0
    have f1 : w0.cell? ⟨w.heap.size + 1, 1, none⟩ = some (.slice none 0 0) := HZ.out.cell 1
    have r1 : w0.frozen? ⟨w.heap.size + 1, 1, none⟩ = false := HZ.out.frozen 1
    have f2 : w0.cell? ⟨w.heap.size + 1, 2, none⟩ = some (.slice none 0 0) := HZ.out.cell 2
    have r2 : w0.frozen? ⟨w.heap.size + 1, 2, none⟩ = false := HZ.out.frozen 2
    have f3 : w0.cell? ⟨w.heap.size + 1, 3, none⟩ = some (.slice none 0 0) := HZ.out.cell 3
    have r3 : w0.frozen? ⟨w.heap.size + 1, 3, none⟩ = false := HZ.out.frozen 3
    have f4 : w0.cell? ⟨w.heap.size + 1, 4, none⟩ = some (.slice none 0 0) := HZ.out.cell 4
    have r4 : w0.frozen? ⟨w.heap.size + 1, 4, none⟩ = false := HZ.out.frozen 4
    have f5 : w0.cell? ⟨w.heap.size + 1, 5, none⟩ = some (.slice none 0 0) := HZ.out.cell 5
    have r5 : w0.frozen? ⟨w.heap.size + 1, 5, none⟩ = false := HZ.out.frozen 5
    have f6 : w0.cell? ⟨w.heap.size + 1, 6, none⟩ = some (.slice none 0 0) := HZ.out.cell 6
    have r6 : w0.frozen? ⟨w.heap.size + 1, 6, none⟩ = false := HZ.out.frozen 6
    have f7 : w0.cell? ⟨w.heap.size + 1, 7, none⟩ = some (.slice none 0 0) := HZ.out.cell 7
    have r7 : w0.frozen? ⟨w.heap.size + 1, 7, none⟩ = false := HZ.out.frozen 7
    have f8 : w0.cell? ⟨w.heap.size + 1, 8, none⟩ = some (.slice none 0 0) := HZ.out.cell 8
    have r8 : w0.frozen? ⟨w.heap.size + 1, 8, none⟩ = false := HZ.out.frozen 8
    go_wp2_with fail
    clear f0 r0 f1 r1 f2 r2 f3 r3 f4 r4 f5 r5 f6 r6 f7 r7 f8 r8
    exact bodyPost_ret (results_cell_slot (by rfl) _ _ (fill_box HZ.out _ _ _ _ _ _ _ _ _) Tryd.underlying37 rfl (by kernel_rfl) rfl) rfl ⟨zeroS, zeroLed, [], 30, rfl, HP.out, zero_own _ _, fill_low XH.out.low (by omega) _ _ _ _ _ _ _ _ _⟩
  have hct : c < (l.accts[t]).cash.length := by omega
  have H2 : Hid (endF l (c : Int) (t : Int) = 0) := endF_zero h2 (by simp only [Int.toNat_natCast]; rw [cashLen_at htl]; omega)
  have SF := Lib.hid (FixpR.rfits_calls amount w0)
  cases fa : fits amount with
  | false =>
    have HP : Hid (payF l (c : Int) amount (m : Int) (t : Int) = (zeroLed, 4)) := payF_nofit H1.out H2.out fa
    rw [fa] at SF
    clear fa
    have f0 : w0.cell? ⟨w.heap.size + 1, 0, none⟩ = some (.int .i64 0) := HZ.out.cell 0
    have r0 : w0.frozen? ⟨w.heap.size + 1, 0, none⟩ = false := HZ.out.frozen 0
    have f1 : w0.cell? ⟨w.heap.size + 1, 1, none⟩ = some (.slice none 0 0) := HZ.out.cell 1
    have r1 : w0.frozen? ⟨w.heap.size + 1, 1, none⟩ = false := HZ.out.frozen 1
    have f2 : w0.cell? ⟨w.heap.size + 1, 2, none⟩ = some (.slice none 0 0) := HZ.out.cell 2
    have r2 : w0.frozen? ⟨w.heap.size + 1, 2, none⟩ = false := HZ.out.frozen 2
    have f3 : w0.cell? ⟨w.heap.size + 1, 3, none⟩ = some (.slice none 0 0) := HZ.out.cell 3
    have r3 : w0.frozen? ⟨w.heap.size + 1, 3, none⟩ = false := HZ.out.frozen 3
    have f4 : w0.cell? ⟨w.heap.size + 1, 4, none⟩ = some (.slice none 0 0) := HZ.out.cell 4
    have r4 : w0.frozen? ⟨w.heap.size + 1, 4, none⟩ = false := HZ.out.frozen 4
    have f5 : w0.cell? ⟨w.heap.size + 1, 5, none⟩ = some (.slice none 0 0) := HZ.out.cell 5
    have r5 : w0.frozen? ⟨w.heap.size + 1, 5, none⟩ = false := HZ.out.frozen 5
    have f6 : w0.cell? ⟨w.heap.size + 1, 6, none⟩ = some (.slice none 0 0) := HZ.out.cell 6
    have r6 : w0.frozen? ⟨w.heap.size + 1, 6, none⟩ = false := HZ.out.frozen 6
    have f7 : w0.cell? ⟨w.heap.size + 1, 7, none⟩ = some (.slice none 0 0) := HZ.out.cell 7
    have r7 : w0.frozen? ⟨w.heap.size + 1, 7, none⟩ = false := HZ.out.frozen 7
    have f8 : w0.cell? ⟨w.heap.size + 1, 8, none⟩ = some (.slice none 0 0) := HZ.out.cell 8
    have r8 : w0.frozen? ⟨w.heap.size + 1, 8, none⟩ = false := HZ.out.frozen 8
    go_wp2_with (go_at_call 39; refine SF.out.mono ?_; rintro e w' ⟨rfl, rfl⟩)
    clear f0 r0 f1 r1 f2 r2 f3 r3 f4 r4 f5 r5 f6 r6 f7 r7 f8 r8
    exact bodyPost_ret (results_cell_slot (by rfl) _ _ (fill_box HZ.out _ _ _ _ _ _ _ _ _) Tryd.underlying37 rfl (by kernel_rfl) rfl) rfl ⟨zeroS, zeroLed, [], 4, rfl, HP.out, zero_own _ _, fill_low XH.out.low (by omega) _ _ _ _ _ _ _ _ _⟩
  | true =>
  rw [fa] at SF
  have i1 := (fits_iff amount).1 fa
  have i2 : amount ≤ 4611686018427387904 := by omega
  have i3 : -4611686018427387904 ≤ amount := by omega
  have HSA : Hid (subF (cashAt l m c) amount = addF (cashAt l m c) (-amount)) := FixpW.subF_add _ _
  clear fa i1
  have G1 := Lib.hid (rgive_calls s l vs c m (-amount) w0 XH.out.at_ HFit.out hml hcm)
  unfold ledV at G1
  go_upto_region 11 with (go_at_call 39; refine SF.out.mono ?_; rintro e w' ⟨rfl, rfl⟩)
  clear d4 dm dt SF
  have k0 := XH.out.c0; have k1 := XH.out.c1; have k2 := XH.out.c2; have k3 := XH.out.c3; have k4 := XH.out.c4; have k5 := XH.out.c5; have k6 := XH.out.c6; have k7 := XH.out.c7; have k8 := XH.out.c8
  go_upto_region 12 with (go_at_call 40; refine G1.out.mono ?_; rintro e w1 (⟨x1, hx, s', us, rfl, own, b1⟩ | ⟨x1, x2, hx, hx2, rfl, b1⟩))
  rotate_left
  · have HP : Hid (payF l (c : Int) amount (m : Int) (t : Int) = (zeroLed, x2)) := payF_sub H1.out H2.out (by simp only [Int.toNat_natCast]; rw [HSA.out]; exact hx) hx2
    have hxb : (x2 != 0) = true := by simpa using hx2
    have Z2 := Lib.hid ((HZ.out.keep b1).alloc (.cells #[.int .i64 l.day, .slice s.a1 l.curs.length s.c1, .slice s.a2 l.unders.length s.c2, .slice s.a3 l.instrs.length s.c3, .slice s.a4 l.accts.length s.c4, .slice s.a5 l.poss.length s.c5, .slice s.a6 l.orders.length s.c6, .slice s.a7 l.avail.length s.c7, .slice s.a8 l.locs.length s.c8] 37))
    have L1 := XH.out.low.trans (b1.mono XH.out.low.size)
    have L2 := Lib.hid (L1.alloc L1.size (.cells #[.int .i64 l.day, .slice s.a1 l.curs.length s.c1, .slice s.a2 l.unders.length s.c2, .slice s.a3 l.instrs.length s.c3, .slice s.a4 l.accts.length s.c4, .slice s.a5 l.poss.length s.c5, .slice s.a6 l.orders.length s.c6, .slice s.a7 l.avail.length s.c7, .slice s.a8 l.locs.length s.c8] 37))
    clear k0 k1 k2 k3 k4 k5 k6 k7 k8 hx hx2 b1 L1
    generalize w1.alloc (.cells #[.int .i64 l.day, .slice s.a1 l.curs.length s.c1, .slice s.a2 l.unders.length s.c2, .slice s.a3 l.instrs.length s.c3, .slice s.a4 l.accts.length s.c4, .slice s.a5 l.poss.length s.c5, .slice s.a6 l.orders.length s.c6, .slice s.a7 l.avail.length s.c7, .slice s.a8 l.locs.length s.c8] 37) = w2 at *
    clear HSA
    have f0 : w2.cell? ⟨w.heap.size + 1, 0, none⟩ = some (.int .i64 0) := Z2.out.cell 0
    have r0 : w2.frozen? ⟨w.heap.size + 1, 0, none⟩ = false := Z2.out.frozen 0
    have f1 : w2.cell? ⟨w.heap.size + 1, 1, none⟩ = some (.slice none 0 0) := Z2.out.cell 1
    have r1 : w2.frozen? ⟨w.heap.size + 1, 1, none⟩ = false := Z2.out.frozen 1
    have f2 : w2.cell? ⟨w.heap.size + 1, 2, none⟩ = some (.slice none 0 0) := Z2.out.cell 2
    have r2 : w2.frozen? ⟨w.heap.size + 1, 2, none⟩ = false := Z2.out.frozen 2
    have f3 : w2.cell? ⟨w.heap.size + 1, 3, none⟩ = some (.slice none 0 0) := Z2.out.cell 3
    have r3 : w2.frozen? ⟨w.heap.size + 1, 3, none⟩ = false := Z2.out.frozen 3
    have f4 : w2.cell? ⟨w.heap.size + 1, 4, none⟩ = some (.slice none 0 0) := Z2.out.cell 4
    have r4 : w2.frozen? ⟨w.heap.size + 1, 4, none⟩ = false := Z2.out.frozen 4
    have f5 : w2.cell? ⟨w.heap.size + 1, 5, none⟩ = some (.slice none 0 0) := Z2.out.cell 5
    have r5 : w2.frozen? ⟨w.heap.size + 1, 5, none⟩ = false := Z2.out.frozen 5
    have f6 : w2.cell? ⟨w.heap.size + 1, 6, none⟩ = some (.slice none 0 0) := Z2.out.cell 6
    have r6 : w2.frozen? ⟨w.heap.size + 1, 6, none⟩ = false := Z2.out.frozen 6
    have f7 : w2.cell? ⟨w.heap.size + 1, 7, none⟩ = some (.slice none 0 0) := Z2.out.cell 7
    have r7 : w2.frozen? ⟨w.heap.size + 1, 7, none⟩ = false := Z2.out.frozen 7
    have f8 : w2.cell? ⟨w.heap.size + 1, 8, none⟩ = some (.slice none 0 0) := Z2.out.cell 8
    have r8 : w2.frozen? ⟨w.heap.size + 1, 8, none⟩ = false := Z2.out.frozen 8
    go_wp2_with fail
    clear f0 r0 f1 r1 f2 r2 f3 r3 f4 r4 f5 r5 f6 r6 f7 r7 f8 r8
    exact bodyPost_ret (results_cell_slot (by rfl) _ _ (fill_box Z2.out _ _ _ _ _ _ _ _ _) Tryd.underlying37 rfl (by kernel_rfl) rfl) rfl ⟨zeroS, zeroLed, [], x2, rfl, HP.out, zero_own _ _, fill_low L2.out (by omega) _ _ _ _ _ _ _ _ _⟩
  have H1x : Hid (subF (cashAt l (m : Int).toNat (c : Int).toNat) amount = (x1, 0)) := by unfold Hid; simp only [Int.toNat_natCast]; rw [HSA.out]; exact hx
  have fx1 : FixpW.I64 x1 := by
    rcases FixpW.two_addF (cashAt l m c) (-amount) with h | ⟨_, h⟩
    · rw [hx] at h; cases h
    · rw [hx] at h; exact FixpW.i64_of_fits h
  have Z2 := (HZ.out.keep b1).alloc (.cells #[.int .i64 l.day, .slice s'.a1 l.curs.length s'.c1, .slice s'.a2 l.unders.length s'.c2, .slice s'.a3 l.instrs.length s'.c3, .slice s'.a4 l.accts.length s'.c4, .slice s'.a5 l.poss.length s'.c5, .slice s'.a6 l.orders.length s'.c6, .slice s'.a7 l.avail.length s'.c7, .slice s'.a8 l.locs.length s'.c8] 37)
  have L1 := XH.out.low.trans (b1.mono XH.out.low.size)
  have O2 := Lib.hid ((own.mono XH.out.low.size).below ((Below.refl _ _).alloc (Nat.le_refl _) (.cells #[.int .i64 l.day, .slice s'.a1 l.curs.length s'.c1, .slice s'.a2 l.unders.length s'.c2, .slice s'.a3 l.instrs.length s'.c3, .slice s'.a4 l.accts.length s'.c4, .slice s'.a5 l.poss.length s'.c5, .slice s'.a6 l.orders.length s'.c6, .slice s'.a7 l.avail.length s'.c7, .slice s'.a8 l.locs.length s'.c8] 37)))
  have B12 := Box.new w1 37 #[.int .i64 l.day, .slice s'.a1 l.curs.length s'.c1, .slice s'.a2 l.unders.length s'.c2, .slice s'.a3 l.instrs.length s'.c3, .slice s'.a4 l.accts.length s'.c4, .slice s'.a5 l.poss.length s'.c5, .slice s'.a6 l.orders.length s'.c6, .slice s'.a7 l.avail.length s'.c7, .slice s'.a8 l.locs.length s'.c8]
  have hlow := L1.size
  have hne : w.heap.size + 1 ≠ w1.heap.size := by have := HZ.out.lt; have := b1.size; omega
  have L2 := L1.alloc L1.size (.cells #[.int .i64 l.day, .slice s'.a1 l.curs.length s'.c1, .slice s'.a2 l.unders.length s'.c2, .slice s'.a3 l.instrs.length s'.c3, .slice s'.a4 l.accts.length s'.c4, .slice s'.a5 l.poss.length s'.c5, .slice s'.a6 l.orders.length s'.c6, .slice s'.a7 l.avail.length s'.c7, .slice s'.a8 l.locs.length s'.c8] 37)
  have HF2 : Hid (LedFit (setCash l m c x1)) := HFit.out.set fx1
  clear k0 k1 k2 k3 k4 k5 k6 k7 k8 hx own b1 L1 HZ XH G1 HSA fx1
  have hml2 : t < (setCash l m c x1).accts.length := by rw [setCash_len]; exact htl
  have hct2 : c < ((setCash l m c x1).accts[t]).cash.length := by rw [setCash_cash l m c x1 t htl]; exact hct
  have G2 : Hid (Calls Tryd.prog 40 #[.agg #[.int .i64 l.day, .slice s'.a1 l.curs.length s'.c1, .slice s'.a2 l.unders.length s'.c2, .slice s'.a3 l.instrs.length s'.c3, .slice s'.a4 l.accts.length s'.c4, .slice s'.a5 l.poss.length s'.c5, .slice s'.a6 l.orders.length s'.c6, .slice s'.a7 l.avail.length s'.c7, .slice s'.a8 l.locs.length s'.c8], .int .i64 (c : Int), .int .i64 amount, .int .i64 (t : Int)] (w1.alloc (.cells #[.int .i64 l.day, .slice s'.a1 l.curs.length s'.c1, .slice s'.a2 l.unders.length s'.c2, .slice s'.a3 l.instrs.length s'.c3, .slice s'.a4 l.accts.length s'.c4, .slice s'.a5 l.poss.length s'.c5, .slice s'.a6 l.orders.length s'.c6, .slice s'.a7 l.avail.length s'.c7, .slice s'.a8 l.locs.length s'.c8] 37)) fun e w' => (∃ y1, addF (cashAt (setCash l m c x1) t c) amount = (y1, 0) ∧ ∃ s2 us2, e = .returned (.tuple #[.agg #[.int .i64 l.day, .slice s2.a1 l.curs.length s2.c1, .slice s2.a2 l.unders.length s2.c2, .slice s2.a3 l.instrs.length s2.c3, .slice s2.a4 l.accts.length s2.c4, .slice s2.a5 l.poss.length s2.c5, .slice s2.a6 l.orders.length s2.c6, .slice s2.a7 l.avail.length s2.c7, .slice s2.a8 l.locs.length s2.c8], .int .i64 0]) ∧ LedOwn (w1.alloc (.cells #[.int .i64 l.day, .slice s'.a1 l.curs.length s'.c1, .slice s'.a2 l.unders.length s'.c2, .slice s'.a3 l.instrs.length s'.c3, .slice s'.a4 l.accts.length s'.c4, .slice s'.a5 l.poss.length s'.c5, .slice s'.a6 l.orders.length s'.c6, .slice s'.a7 l.avail.length s'.c7, .slice s'.a8 l.locs.length s'.c8] 37)).heap.size w' s2 (setCash (setCash l m c x1) t c y1) us2 ∧ Below (w1.alloc (.cells #[.int .i64 l.day, .slice s'.a1 l.curs.length s'.c1, .slice s'.a2 l.unders.length s'.c2, .slice s'.a3 l.instrs.length s'.c3, .slice s'.a4 l.accts.length s'.c4, .slice s'.a5 l.poss.length s'.c5, .slice s'.a6 l.orders.length s'.c6, .slice s'.a7 l.avail.length s'.c7, .slice s'.a8 l.locs.length s'.c8] 37)).heap.size (w1.alloc (.cells #[.int .i64 l.day, .slice s'.a1 l.curs.length s'.c1, .slice s'.a2 l.unders.length s'.c2, .slice s'.a3 l.instrs.length s'.c3, .slice s'.a4 l.accts.length s'.c4, .slice s'.a5 l.poss.length s'.c5, .slice s'.a6 l.orders.length s'.c6, .slice s'.a7 l.avail.length s'.c7, .slice s'.a8 l.locs.length s'.c8] 37)) w') ∨ (∃ y1 y2, addF (cashAt (setCash l m c x1) t c) amount = (y1, y2) ∧ y2 ≠ 0 ∧ e = .returned (.tuple #[.agg #[.int .i64 l.day, .slice s'.a1 l.curs.length s'.c1, .slice s'.a2 l.unders.length s'.c2, .slice s'.a3 l.instrs.length s'.c3, .slice s'.a4 l.accts.length s'.c4, .slice s'.a5 l.poss.length s'.c5, .slice s'.a6 l.orders.length s'.c6, .slice s'.a7 l.avail.length s'.c7, .slice s'.a8 l.locs.length s'.c8], .int .i64 y2]) ∧ Below (w1.alloc (.cells #[.int .i64 l.day, .slice s'.a1 l.curs.length s'.c1, .slice s'.a2 l.unders.length s'.c2, .slice s'.a3 l.instrs.length s'.c3, .slice s'.a4 l.accts.length s'.c4, .slice s'.a5 l.poss.length s'.c5, .slice s'.a6 l.orders.length s'.c6, .slice s'.a7 l.avail.length s'.c7, .slice s'.a8 l.locs.length s'.c8] 37)).heap.size (w1.alloc (.cells #[.int .i64 l.day, .slice s'.a1 l.curs.length s'.c1, .slice s'.a2 l.unders.length s'.c2, .slice s'.a3 l.instrs.length s'.c3, .slice s'.a4 l.accts.length s'.c4, .slice s'.a5 l.poss.length s'.c5, .slice s'.a6 l.orders.length s'.c6, .slice s'.a7 l.avail.length s'.c7, .slice s'.a8 l.locs.length s'.c8] 37)) w')) := by
    have G := rgive_calls s' (setCash l m c x1) us c t amount (w1.alloc (.cells #[.int .i64 l.day, .slice s'.a1 l.curs.length s'.c1, .slice s'.a2 l.unders.length s'.c2, .slice s'.a3 l.instrs.length s'.c3, .slice s'.a4 l.accts.length s'.c4, .slice s'.a5 l.poss.length s'.c5, .slice s'.a6 l.orders.length s'.c6, .slice s'.a7 l.avail.length s'.c7, .slice s'.a8 l.locs.length s'.c8] 37)) O2.out.at_ HF2.out hml2 hct2
    unfold ledV at G
    rw [setCash_len] at G
    exact G
  have HB := Lib.hid B12
  have HZ2 := Lib.hid Z2
  have HL := Lib.hid L2
  clear B12 Z2 L2
  change Code.wp _ _ _ _ (w1.alloc (.cells #[.int .i64 l.day, .slice s'.a1 l.curs.length s'.c1, .slice s'.a2 l.unders.length s'.c2, .slice s'.a3 l.instrs.length s'.c3, .slice s'.a4 l.accts.length s'.c4, .slice s'.a5 l.poss.length s'.c5, .slice s'.a6 l.orders.length s'.c6, .slice s'.a7 l.avail.length s'.c7, .slice s'.a8 l.locs.length s'.c8] 37))
  generalize w1.alloc (.cells #[.int .i64 l.day, .slice s'.a1 l.curs.length s'.c1, .slice s'.a2 l.unders.length s'.c2, .slice s'.a3 l.instrs.length s'.c3, .slice s'.a4 l.accts.length s'.c4, .slice s'.a5 l.poss.length s'.c5, .slice s'.a6 l.orders.length s'.c6, .slice s'.a7 l.avail.length s'.c7, .slice s'.a8 l.locs.length s'.c8] 37) = w2 at *
  generalize w1.heap.size = g12 at *
  have e0 : w2.cell? ⟨g12, 0, none⟩ = some (.int .i64 l.day) := HB.out.cell 0
  have e1 : w2.cell? ⟨g12, 1, none⟩ = some (.slice s'.a1 l.curs.length s'.c1) := HB.out.cell 1
  have e2 : w2.cell? ⟨g12, 2, none⟩ = some (.slice s'.a2 l.unders.length s'.c2) := HB.out.cell 2
  have e3 : w2.cell? ⟨g12, 3, none⟩ = some (.slice s'.a3 l.instrs.length s'.c3) := HB.out.cell 3
  have e4 : w2.cell? ⟨g12, 4, none⟩ = some (.slice s'.a4 l.accts.length s'.c4) := HB.out.cell 4
  have e5 : w2.cell? ⟨g12, 5, none⟩ = some (.slice s'.a5 l.poss.length s'.c5) := HB.out.cell 5
  have e6 : w2.cell? ⟨g12, 6, none⟩ = some (.slice s'.a6 l.orders.length s'.c6) := HB.out.cell 6
  have e7 : w2.cell? ⟨g12, 7, none⟩ = some (.slice s'.a7 l.avail.length s'.c7) := HB.out.cell 7
  have e8 : w2.cell? ⟨g12, 8, none⟩ = some (.slice s'.a8 l.locs.length s'.c8) := HB.out.cell 8
  go_upto_region 14 with fail
  have HZ9 := HZ2
  go_upto_region 15 with (go_at_call 40; refine G2.out.mono ?_; rintro e w3 H3; have HB3 := Lib.hid (HB.out.keep (give_low H3)); have HZ3 := Lib.hid (HZ2.out.keep (give_low H3)); have L3 := Lib.hid (HL.out.trans ((give_low H3).mono HL.out.size)); clear e0 e1 e2 e3 e4 e5 e6 e7 e8; have e0 : _ = some _ := HB3.out.cell 0; have e1 : _ = some _ := HB3.out.cell 1; have e2 : _ = some _ := HB3.out.cell 2; have e3 : _ = some _ := HB3.out.cell 3; have e4 : _ = some _ := HB3.out.cell 4; have e5 : _ = some _ := HB3.out.cell 5; have e6 : _ = some _ := HB3.out.cell 6; have e7 : _ = some _ := HB3.out.cell 7; have e8 : _ = some _ := HB3.out.cell 8; have t0 := HB3.out.frozen 0; have t1 := HB3.out.frozen 1; have t2 := HB3.out.frozen 2; have t3 := HB3.out.frozen 3; have t4 := HB3.out.frozen 4; have t5 := HB3.out.frozen 5; have t6 := HB3.out.frozen 6; have t7 := HB3.out.frozen 7; have t8 := HB3.out.frozen 8; rcases H3 with ⟨y1, hy, s2, us2, rfl, own3, _⟩ | ⟨y1, y2, hy, hy2, rfl, _⟩)
  rotate_left
  · have HP : Hid (payF l (c : Int) amount (m : Int) (t : Int) = (zeroLed, y2)) := payF_add H1.out H2.out H1x.out (by simp only [Int.toNat_natCast]; exact hy) hy2
    have hyb : (y2 != 0) = true := by simpa using hy2
    clear e0 e1 e2 e3 e4 e5 e6 e7 e8 t0 t1 t2 t3 t4 t5 t6 t7 t8
    have Z4 := Lib.hid (fill9_far HZ3.out hne (.int .i64 l.day) (.slice s'.a1 l.curs.length s'.c1) (.slice s'.a2 l.unders.length s'.c2) (.slice s'.a3 l.instrs.length s'.c3) (.slice s'.a4 l.accts.length s'.c4) (.slice s'.a5 l.poss.length s'.c5) (.slice s'.a6 l.orders.length s'.c6) (.slice s'.a7 l.avail.length s'.c7) (.slice s'.a8 l.locs.length s'.c8))
    have L4 := Lib.hid (fill_low L3.out hlow (.int .i64 l.day) (.slice s'.a1 l.curs.length s'.c1) (.slice s'.a2 l.unders.length s'.c2) (.slice s'.a3 l.instrs.length s'.c3) (.slice s'.a4 l.accts.length s'.c4) (.slice s'.a5 l.poss.length s'.c5) (.slice s'.a6 l.orders.length s'.c6) (.slice s'.a7 l.avail.length s'.c7) (.slice s'.a8 l.locs.length s'.c8))
    clear hy hy2 HB3 HZ3 L3
    generalize (((((((((w3.setCell ⟨g12, 0, none⟩ (.int .i64 l.day)).setCell ⟨g12, 1, none⟩ (.slice s'.a1 l.curs.length s'.c1)).setCell ⟨g12, 2, none⟩ (.slice s'.a2 l.unders.length s'.c2)).setCell ⟨g12, 3, none⟩ (.slice s'.a3 l.instrs.length s'.c3)).setCell ⟨g12, 4, none⟩ (.slice s'.a4 l.accts.length s'.c4)).setCell ⟨g12, 5, none⟩ (.slice s'.a5 l.poss.length s'.c5)).setCell ⟨g12, 6, none⟩ (.slice s'.a6 l.orders.length s'.c6)).setCell ⟨g12, 7, none⟩ (.slice s'.a7 l.avail.length s'.c7)).setCell ⟨g12, 8, none⟩ (.slice s'.a8 l.locs.length s'.c8)) = w4 at *
    clear HB
    have f0 : w4.cell? ⟨w.heap.size + 1, 0, none⟩ = some (.int .i64 0) := Z4.out.cell 0
    have r0 : w4.frozen? ⟨w.heap.size + 1, 0, none⟩ = false := Z4.out.frozen 0
    have f1 : w4.cell? ⟨w.heap.size + 1, 1, none⟩ = some (.slice none 0 0) := Z4.out.cell 1
    have r1 : w4.frozen? ⟨w.heap.size + 1, 1, none⟩ = false := Z4.out.frozen 1
    have f2 : w4.cell? ⟨w.heap.size + 1, 2, none⟩ = some (.slice none 0 0) := Z4.out.cell 2
    have r2 : w4.frozen? ⟨w.heap.size + 1, 2, none⟩ = false := Z4.out.frozen 2
    have f3 : w4.cell? ⟨w.heap.size + 1, 3, none⟩ = some (.slice none 0 0) := Z4.out.cell 3
    have r3 : w4.frozen? ⟨w.heap.size + 1, 3, none⟩ = false := Z4.out.frozen 3
    have f4 : w4.cell? ⟨w.heap.size + 1, 4, none⟩ = some (.slice none 0 0) := Z4.out.cell 4
    have r4 : w4.frozen? ⟨w.heap.size + 1, 4, none⟩ = false := Z4.out.frozen 4
    have f5 : w4.cell? ⟨w.heap.size + 1, 5, none⟩ = some (.slice none 0 0) := Z4.out.cell 5
    have r5 : w4.frozen? ⟨w.heap.size + 1, 5, none⟩ = false := Z4.out.frozen 5
    have f6 : w4.cell? ⟨w.heap.size + 1, 6, none⟩ = some (.slice none 0 0) := Z4.out.cell 6
    have r6 : w4.frozen? ⟨w.heap.size + 1, 6, none⟩ = false := Z4.out.frozen 6
    have f7 : w4.cell? ⟨w.heap.size + 1, 7, none⟩ = some (.slice none 0 0) := Z4.out.cell 7
    have r7 : w4.frozen? ⟨w.heap.size + 1, 7, none⟩ = false := Z4.out.frozen 7
    have f8 : w4.cell? ⟨w.heap.size + 1, 8, none⟩ = some (.slice none 0 0) := Z4.out.cell 8
    have r8 : w4.frozen? ⟨w.heap.size + 1, 8, none⟩ = false := Z4.out.frozen 8
    go_wp2_with fail
    clear f0 r0 f1 r1 f2 r2 f3 r3 f4 r4 f5 r5 f6 r6 f7 r7 f8 r8
    exact bodyPost_ret (results_cell_slot (by rfl) _ _ (fill_box Z4.out _ _ _ _ _ _ _ _ _) Tryd.underlying37 rfl (by kernel_rfl) rfl) rfl ⟨zeroS, zeroLed, [], y2, rfl, HP.out, zero_own _ _, fill_low L4.out (by omega) _ _ _ _ _ _ _ _ _⟩
  have HR : Hid (payF l (c : Int) amount (m : Int) (t : Int) = (setCash (setCash l m c x1) t c y1, 0)) := payF_ok H1.out H2.out H1x.out (by simp only [Int.toNat_natCast]; exact hy)
  clear e0 e1 e2 e3 e4 e5 e6 e7 e8 t0 t1 t2 t3 t4 t5 t6 t7 t8
  have Z4 := Lib.hid (fill9_far HZ3.out hne (.int .i64 l.day) (.slice s2.a1 l.curs.length s2.c1) (.slice s2.a2 l.unders.length s2.c2) (.slice s2.a3 l.instrs.length s2.c3) (.slice s2.a4 l.accts.length s2.c4) (.slice s2.a5 l.poss.length s2.c5) (.slice s2.a6 l.orders.length s2.c6) (.slice s2.a7 l.avail.length s2.c7) (.slice s2.a8 l.locs.length s2.c8))
  have L4 := Lib.hid (fill_low L3.out hlow (.int .i64 l.day) (.slice s2.a1 l.curs.length s2.c1) (.slice s2.a2 l.unders.length s2.c2) (.slice s2.a3 l.instrs.length s2.c3) (.slice s2.a4 l.accts.length s2.c4) (.slice s2.a5 l.poss.length s2.c5) (.slice s2.a6 l.orders.length s2.c6) (.slice s2.a7 l.avail.length s2.c7) (.slice s2.a8 l.locs.length s2.c8))
  have B4 := Lib.hid (fill9_box HB3.out (.int .i64 l.day) (.slice s2.a1 l.curs.length s2.c1) (.slice s2.a2 l.unders.length s2.c2) (.slice s2.a3 l.instrs.length s2.c3) (.slice s2.a4 l.accts.length s2.c4) (.slice s2.a5 l.poss.length s2.c5) (.slice s2.a6 l.orders.length s2.c6) (.slice s2.a7 l.avail.length s2.c7) (.slice s2.a8 l.locs.length s2.c8))
  have O4 := Lib.hid (fill_own (own3.mono HL.out.size) HB3.out (.int .i64 l.day) (.slice s2.a1 l.curs.length s2.c1) (.slice s2.a2 l.unders.length s2.c2) (.slice s2.a3 l.instrs.length s2.c3) (.slice s2.a4 l.accts.length s2.c4) (.slice s2.a5 l.poss.length s2.c5) (.slice s2.a6 l.orders.length s2.c6) (.slice s2.a7 l.avail.length s2.c7) (.slice s2.a8 l.locs.length s2.c8))
  clear hy HB3 HZ3 L3 own3
  generalize (((((((((w3.setCell ⟨g12, 0, none⟩ (.int .i64 l.day)).setCell ⟨g12, 1, none⟩ (.slice s2.a1 l.curs.length s2.c1)).setCell ⟨g12, 2, none⟩ (.slice s2.a2 l.unders.length s2.c2)).setCell ⟨g12, 3, none⟩ (.slice s2.a3 l.instrs.length s2.c3)).setCell ⟨g12, 4, none⟩ (.slice s2.a4 l.accts.length s2.c4)).setCell ⟨g12, 5, none⟩ (.slice s2.a5 l.poss.length s2.c5)).setCell ⟨g12, 6, none⟩ (.slice s2.a6 l.orders.length s2.c6)).setCell ⟨g12, 7, none⟩ (.slice s2.a7 l.avail.length s2.c7)).setCell ⟨g12, 8, none⟩ (.slice s2.a8 l.locs.length s2.c8)) = w4 at *
  have e0 : w4.cell? ⟨g12, 0, none⟩ = some (.int .i64 l.day) := B4.out.cell 0
  have e1 : w4.cell? ⟨g12, 1, none⟩ = some (.slice s2.a1 l.curs.length s2.c1) := B4.out.cell 1
  have e2 : w4.cell? ⟨g12, 2, none⟩ = some (.slice s2.a2 l.unders.length s2.c2) := B4.out.cell 2
  have e3 : w4.cell? ⟨g12, 3, none⟩ = some (.slice s2.a3 l.instrs.length s2.c3) := B4.out.cell 3
  have e4 : w4.cell? ⟨g12, 4, none⟩ = some (.slice s2.a4 l.accts.length s2.c4) := B4.out.cell 4
  have e5 : w4.cell? ⟨g12, 5, none⟩ = some (.slice s2.a5 l.poss.length s2.c5) := B4.out.cell 5
  have e6 : w4.cell? ⟨g12, 6, none⟩ = some (.slice s2.a6 l.orders.length s2.c6) := B4.out.cell 6
  have e7 : w4.cell? ⟨g12, 7, none⟩ = some (.slice s2.a7 l.avail.length s2.c7) := B4.out.cell 7
  have e8 : w4.cell? ⟨g12, 8, none⟩ = some (.slice s2.a8 l.locs.length s2.c8) := B4.out.cell 8
  have f0 : w4.cell? ⟨w.heap.size + 1, 0, none⟩ = some (.int .i64 0) := Z4.out.cell 0
  have r0 : w4.frozen? ⟨w.heap.size + 1, 0, none⟩ = false := Z4.out.frozen 0
  have f1 : w4.cell? ⟨w.heap.size + 1, 1, none⟩ = some (.slice none 0 0) := Z4.out.cell 1
  have r1 : w4.frozen? ⟨w.heap.size + 1, 1, none⟩ = false := Z4.out.frozen 1
  have f2 : w4.cell? ⟨w.heap.size + 1, 2, none⟩ = some (.slice none 0 0) := Z4.out.cell 2
  have r2 : w4.frozen? ⟨w.heap.size + 1, 2, none⟩ = false := Z4.out.frozen 2
  have f3 : w4.cell? ⟨w.heap.size + 1, 3, none⟩ = some (.slice none 0 0) := Z4.out.cell 3
  have r3 : w4.frozen? ⟨w.heap.size + 1, 3, none⟩ = false := Z4.out.frozen 3
  have f4 : w4.cell? ⟨w.heap.size + 1, 4, none⟩ = some (.slice none 0 0) := Z4.out.cell 4
  have r4 : w4.frozen? ⟨w.heap.size + 1, 4, none⟩ = false := Z4.out.frozen 4
  have f5 : w4.cell? ⟨w.heap.size + 1, 5, none⟩ = some (.slice none 0 0) := Z4.out.cell 5
  have r5 : w4.frozen? ⟨w.heap.size + 1, 5, none⟩ = false := Z4.out.frozen 5
  have f6 : w4.cell? ⟨w.heap.size + 1, 6, none⟩ = some (.slice none 0 0) := Z4.out.cell 6
  have r6 : w4.frozen? ⟨w.heap.size + 1, 6, none⟩ = false := Z4.out.frozen 6
  have f7 : w4.cell? ⟨w.heap.size + 1, 7, none⟩ = some (.slice none 0 0) := Z4.out.cell 7
  have r7 : w4.frozen? ⟨w.heap.size + 1, 7, none⟩ = false := Z4.out.frozen 7
  have f8 : w4.cell? ⟨w.heap.size + 1, 8, none⟩ = some (.slice none 0 0) := Z4.out.cell 8
  have r8 : w4.frozen? ⟨w.heap.size + 1, 8, none⟩ = false := Z4.out.frozen 8
  go_wp2_with fail
  clear f0 r0 f1 r1 f2 r2 f3 r3 f4 r4 f5 r5 f6 r6 f7 r7 f8 r8
  clear e0 e1 e2 e3 e4 e5 e6 e7 e8
  refine bodyPost_ret (results_cell_slot (by rfl) _ _ (fill_box Z4.out _ _ _ _ _ _ _ _ _) Tryd.underlying37 rfl (by kernel_rfl) rfl) rfl ⟨s2, _, us2, 0, ?_, HR.out, fill_own O4.out Z4.out _ _ _ _ _ _ _ _ _, fill_low L4.out (by omega) _ _ _ _ _ _ _ _ _⟩
  rw [setCash_len, setCash_len]
  rfl
end Go.Proofs.YtmimhimlgbklpaaDoor.LedW
namespace Go.Proofs.YtmimhimlgbklpaaDoor.LedW
open Go.RowKit Go.Proofs.YtmimhimlgbklpaaDoor.Bas Go.Proofs.YtmimhimlgbklpaaDoor.LedM Go.Proofs.YtmimhimlgbklpaaDoor.FixpM

theorem fit_first : LedFit firstL := by
  refine ⟨by decide, ⟨by decide, by decide⟩, ?_, ?_, ?_, ?_, ?_, ?_, ?_, ?_⟩
  · intro x hx
    have : x = (1000000, 0) := by simpa [firstL] using hx
    subst this
    exact ⟨⟨by decide, by decide⟩, by decide, by decide⟩
  · intro x hx; simp [firstL] at hx
  · intro x hx; simp [firstL] at hx
  · intro x hx
    have : x = ⟨-1, [0], false, 0⟩ := by simpa [firstL] using hx
    subst this
    refine ⟨⟨by decide, by decide⟩, ⟨by decide, by decide⟩, ?_, by decide⟩
    intro z hz
    have : z = 0 := by simpa using hz
    subst this
    exact ⟨by decide, by decide⟩
  · intro x hx; simp [firstL] at hx
  · intro x hx; simp [firstL] at hx
  · intro x hx; simp [firstL] at hx
  · intro x hx; simp [firstL] at hx
def paidL : Led := ⟨0, [(1000000, 0)], [], [], [⟨-1, [-5], false, 0⟩, ⟨-1, [5], false, 0⟩], [], [], [], []⟩
theorem pay_first : payF firstL 0 5 0 1 = (paidL, 0) := by decide
theorem fit_paid : LedFit paidL := by
  have := (fit_first.set (v := 0) (c := 0) (x := -5) ⟨by decide, by decide⟩).set (v := 1) (c := 0) (x := 5) ⟨by decide, by decide⟩
  exact this
theorem good_first : goodF firstL = true := by decide
theorem good_paid : goodF paidL = true := by decide
set_option maxHeartbeats 2000000 in
set_option maxRecDepth 100000 in
theorem lwakes_calls (w : World) : Calls Tryd.prog 8 #[] w fun e w' => e = .returned (.bool true) ∧ Below w.heap.size w w' := by
  have F := Lib.hid (fun W => first_calls W)
  have RF := Lib.hid (fun W => rfirst_calls W)
  have P := Lib.hid (fun W s us h => pay_calls s firstL us 0 5 0 1 W h fit_first ⟨by decide, by decide⟩)
  have G := Lib.hid (fun W s us h => lgood_calls s paidL us W h fit_paid)
  rw [good_paid] at G
  have S := Lib.hid (fun W s us r vs h1 h2 => rsame_calls s firstL us r firstL vs W h1 h2 fit_first fit_first)
  simp only [decide_true] at S
  unfold ledV at F RF P G S
  go_enter Tryd.func8, Tryd.ntmps8
  go_upto_region 2 with (first | (go_at_call 21; refine (F.out _).mono ?_; rintro e w1 ⟨s1, us1, rfl, own1, b1⟩) | (go_at_call 13; refine (P.out _ _ _ own1.at_).mono ?_; rintro e w2 ⟨s2, l2, us2, er, rfl, hp, own2, b2⟩; rw [pay_first] at hp; cases hp))
  have L2 := b1.trans (b2.mono b1.size)
  have O3 := (own2.mono b1.size).below ((Below.refl _ _).alloc (Nat.le_refl _) (.cells #[.int .i64 0, .slice s2.a1 1 s2.c1, .slice s2.a2 0 s2.c2, .slice s2.a3 0 s2.c3, .slice s2.a4 2 s2.c4, .slice s2.a5 0 s2.c5, .slice s2.a6 0 s2.c6, .slice s2.a7 0 s2.c7, .slice s2.a8 0 s2.c8] 37))
  have B3 := Box.new w2 37 #[.int .i64 0, .slice s2.a1 1 s2.c1, .slice s2.a2 0 s2.c2, .slice s2.a3 0 s2.c3, .slice s2.a4 2 s2.c4, .slice s2.a5 0 s2.c5, .slice s2.a6 0 s2.c6, .slice s2.a7 0 s2.c7, .slice s2.a8 0 s2.c8]
  have L3 := L2.alloc L2.size (.cells #[.int .i64 0, .slice s2.a1 1 s2.c1, .slice s2.a2 0 s2.c2, .slice s2.a3 0 s2.c3, .slice s2.a4 2 s2.c4, .slice s2.a5 0 s2.c5, .slice s2.a6 0 s2.c6, .slice s2.a7 0 s2.c7, .slice s2.a8 0 s2.c8] 37)
  clear own1 own2 b1 b2 L2
  change Code.wp _ _ _ _ (w2.alloc (.cells #[.int .i64 0, .slice s2.a1 1 s2.c1, .slice s2.a2 0 s2.c2, .slice s2.a3 0 s2.c3, .slice s2.a4 2 s2.c4, .slice s2.a5 0 s2.c5, .slice s2.a6 0 s2.c6, .slice s2.a7 0 s2.c7, .slice s2.a8 0 s2.c8] 37))
  generalize w2.alloc (.cells #[.int .i64 0, .slice s2.a1 1 s2.c1, .slice s2.a2 0 s2.c2, .slice s2.a3 0 s2.c3, .slice s2.a4 2 s2.c4, .slice s2.a5 0 s2.c5, .slice s2.a6 0 s2.c6, .slice s2.a7 0 s2.c7, .slice s2.a8 0 s2.c8] 37) = w3 at *
  generalize w2.heap.size = g1 at *
  obtain ⟨g4, h4⟩ := O3.addr (by decide)
  obtain ⟨ga, ka, e0, _, _, hc0, _, _⟩ := O3.row (v := 0) (c := 0) (by rw [O3.len]; decide) (by decide) (by decide)
  obtain ⟨gb, kb, e1, _, _, hc1, _, _⟩ := O3.row (v := 1) (c := 0) (by rw [O3.len]; decide) (by decide) (by decide)
  have d0 := O3.cashCell (k := 0) (by rw [O3.len]; decide) h4
  have d1 := O3.cashCell (k := 1) (by rw [O3.len]; decide) h4
  rw [e0] at d0
  rw [e1] at d1
  have hc0' : w3.cell? ⟨ga, 0, none⟩ = some (.int .i64 (-5)) := hc0
  have hc1' : w3.cell? ⟨gb, 0, none⟩ = some (.int .i64 5) := hc1
  have d0' : w3.cell? ⟨g4, 1, none⟩ = some (.slice (some ⟨ga, 0, none⟩) 1 ka) := d0
  have d1' : w3.cell? ⟨g4, 5, none⟩ = some (.slice (some ⟨gb, 0, none⟩) 1 kb) := d1
  clear d0 d1 hc0 hc1 e0 e1
  have k0 : w3.cell? ⟨g1, 0, none⟩ = some (.int .i64 0) := B3.cell 0
  have k1 : w3.cell? ⟨g1, 1, none⟩ = some (.slice s2.a1 1 s2.c1) := B3.cell 1
  have k2 : w3.cell? ⟨g1, 2, none⟩ = some (.slice s2.a2 0 s2.c2) := B3.cell 2
  have k3 : w3.cell? ⟨g1, 3, none⟩ = some (.slice s2.a3 0 s2.c3) := B3.cell 3
  have k4 : w3.cell? ⟨g1, 4, none⟩ = some (.slice s2.a4 2 s2.c4) := B3.cell 4
  have k5 : w3.cell? ⟨g1, 5, none⟩ = some (.slice s2.a5 0 s2.c5) := B3.cell 5
  have k6 : w3.cell? ⟨g1, 6, none⟩ = some (.slice s2.a6 0 s2.c6) := B3.cell 6
  have k7 : w3.cell? ⟨g1, 7, none⟩ = some (.slice s2.a7 0 s2.c7) := B3.cell 7
  have k8 : w3.cell? ⟨g1, 8, none⟩ = some (.slice s2.a8 0 s2.c8) := B3.cell 8
  have O4 := Lib.hid O3.at_
  have L4 := Lib.hid L3
  rw [h4] at k4
  have H4 := Lib.hid h4
  clear O3 B3 L3 h4
  go_wp2_with (first | (go_at_call 20; rw [← H4.out]; refine (G.out w3 s2 _ O4.out).mono ?_; rintro e w5 ⟨rfl, b5⟩) | (go_at_call 21; refine (F.out _).mono ?_; rintro e w6 ⟨s6, us6, rfl, own6, b6⟩) | (go_at_call 22; refine (RF.out _).mono ?_; rintro e w7 ⟨s7, us7, rfl, own7, b7⟩) | (go_at_call 14; refine (S.out _ _ _ _ _ (own6.at_.keep b7) own7.at_).mono ?_; rintro e w8 ⟨rfl, b8⟩))
  go_ret
  have L5 := L4.out.trans (b5.mono L4.out.size)
  have L6 := L5.trans (b6.mono L5.size)
  have L7 := L6.trans (b7.mono L6.size)
  exact ⟨rfl, L7.trans (b8.mono L7.size)⟩
end Go.Proofs.YtmimhimlgbklpaaDoor.LedW
namespace Go.Proofs.YtmimhimlgbklpaaDoor.LedW
open Go.ChangeShapes Go.WideShapes Go.ChangeAt Go.RowKit Go.Proofs.YtmimhimlgbklpaaDoor.Bas Go.Proofs.YtmimhimlgbklpaaDoor.LedM

theorem cellsA2 : Tryd.prog.cellsOf 46 = 2 := by kernel_rfl
set_option maxRecDepth 100000 in
theorem open_two {H : Type} {enc : TypeId × Value → H} {W : World} {base : Nat} {v : Value} {d : DataW H} {p : List MemPlace}
    (hv : Value.okWide Tryd.prog W .any base 46 v) (h : DataW.Trod enc Tryd.prog W 0 (fun _ => true) true 46 v d p) : ∃ x y, v = .agg #[.int .i64 x, .int .i64 y] ∧ FixpW.I64 x ∧ FixpW.I64 y := by
  obtain ⟨zs, rfl, hl, hw⟩ := open_arr_int Tryd.underlying46 Tryd.underlying3 cells64 cellsA2 hv h
  match zs, hl with
  | [x, y], _ => exact ⟨x, y, rfl, i64_wf (hw x (by simp)), i64_wf (hw y (by simp))⟩
def strC (x : List UInt8) : List Value := [.string ⟨x.toArray⟩]
theorem len_str (x : List UInt8) : (strC x).length = 1 := rfl
set_option maxRecDepth 100000 in
theorem open_strs {H : Type} {enc : TypeId × Value → H} {W : World} {base : Nat} {v : Value} {d : DataW H} {p : List MemPlace}
    (hv : Value.okWide Tryd.prog W .any base 22 v) (h : DataW.Trod enc Tryd.prog W 0 (fun _ => true) true 22 v d p) (hw : ∀ x ∈ d.weights Tryd.prog 22, x ≤ reachBytes) :
    ∃ (a : Option Addr) (l : List (List UInt8)) (cap : Nat), v = .slice a l.length cap ∧ At W a (l.flatMap strC) ∧ l.length ≤ 140737488351232 := by
  obtain ⟨a, len, cap, rfl⟩ := okWide_slice Tryd.underlying22 hv
  obtain ⟨fuel, hf⟩ := h
  obtain ⟨a', l, cap', h1, hat, hc, _, _, hb⟩ := open_recs (f := strC) (Ok := fun _ => True) Tryd.underlying22 hf hw (fun m r z hl hr hw => by
    rw [cellsS] at hl
    match r, hl with
    | [r0], _ =>
      obtain ⟨x, rfl, _⟩ := str_of hr hw
      exact ⟨x, rfl, trivial⟩)
  have hbs : Tryd.prog.bytesOf 9 = 16 := by kernel_rfl
  rw [hbs] at hb
  have e : Value.slice a len cap = .slice a' l.length cap' := by simpa [Value.cells] using h1
  exact ⟨a', l, cap', e, hat, by omega⟩
/-- the tables' cells, for a witness -/
def accepts : List Nat := [128, 191, 160, 191, 128, 159, 144, 191, 128, 143, 0, 0, 0, 0, 0, 0, 0, 0, 0, 0, 0, 0, 0, 0, 0, 0, 0, 0, 0, 0, 0, 0]
def acceptCells : Array Value := (accepts.map fun (n : Nat) => Value.int .u8 (n : Int)).toArray
def firstCells : Array Value := (Go.Pinned.utf8FirstZ.map fun (n : Nat) => Value.int .u8 (n : Int)).toArray
end Go.Proofs.YtmimhimlgbklpaaDoor.LedW
