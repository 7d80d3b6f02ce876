/- Same, and what the document says of a ledger; wakes; what the laws are handed. -/
import Derived.Test.YtocjfjikkdpfdaaGreatDoorBaseStage
import Derived.Test.YtocjfjikkdpfdaaGreatDoorLedLists
import Derived.Test.YtocjfjikkdpfdaaGreatDoorLedGoodMath
import Derived.Test.YtocjfjikkdpfdaaGreatDoorLedPush
import Derived.Test.YtocjfjikkdpfdaaGreatDoorLedA
import Derived.Test.YtocjfjikkdpfdaaGreatDoorFixpDoc
import Derived.Test.YtocjfjikkdpfdaaGreatDoorLedGoodAll
import Derived.Test.YtocjfjikkdpfdaaGreatDoorBaseLaid
set_option linter.unusedSimpArgs false
set_option linter.unusedVariables false
namespace Go.Proofs.YtocjfjikkdpfdaaGreatDoor.Bas
open Go Go.RowKit
section
variable {P : Program} {ops : Array Oper} {S : World → Prop} {Q : Exit → Act → World → Prop} {t : Nat}
/-- number i or number j may come up -/
theorem stage_both {i j k : Nat} {o o' : Oper} {s : Array Bool} {a : Act} {w : World} (ho : ops[i]? = some o) (ho' : ops[j]? = some o') (hr : Region.ready .any ops s = [i, j]) (hg : Region.wanted o (yielded ops a.tmps) = true) (hg' : Region.wanted o' (yielded ops a.tmps) = true)
    (h : ∀ K : Act → World → Prop, Hid (∀ a w, (i < t → S w) → Stage P ops Q S t k (s.setIfInBounds i true) a w → K a w) → o.wp P a w K Q)
    (h' : ∀ K : Act → World → Prop, Hid (∀ a w, (j < t → S w) → Stage P ops Q S t k (s.setIfInBounds j true) a w → K a w) → o'.wp P a w K Q) : Stage P ops Q S t (k + 1) s a w := by
  refine ⟨fun h0 => (by rw [hr] at h0; cases h0), fun n hn => ?_⟩
  rw [hr] at hn
  have hn' : n = i ∨ n = j := by simpa using hn
  rcases hn' with rfl | rfl
  · unfold wpOp
    simp only [ho]
    rw [if_pos hg]
    exact .inl (h _ fun a w h1 h2 => ⟨h1, h2.out⟩)
  · unfold wpOp
    simp only [ho']
    rw [if_pos hg']
    exact .inl (h' _ fun a w h1 h2 => ⟨h1, h2.out⟩)
end
end Go.Proofs.YtocjfjikkdpfdaaGreatDoor.Bas
namespace Go.Proofs.YtocjfjikkdpfdaaGreatDoor.LedW
open Go.RowKit Go.Proofs.YtocjfjikkdpfdaaGreatDoor.Bas Go.Proofs.YtocjfjikkdpfdaaGreatDoor.LedM

theorem acc_eq (x0 y0 : Int) (x1 y1 : List Int) (x2 y2 : Bool) (x3 y3 : Int) : decide ((⟨x0, x1, x2, x3⟩ : Acc) = ⟨y0, y1, y2, y3⟩) = (decide (x0 = y0) && decide (x2 = y2) && decide (x3 = y3) && decide (x1 = y1)) := by
  rw [Bool.eq_iff_iff]
  simp only [Bool.and_eq_true, decide_eq_true_eq, Acc.mk.injEq]
  constructor
  · rintro ⟨h0, h1, h2, h3⟩; exact ⟨⟨⟨h0, h2⟩, h3⟩, h1⟩
  · rintro ⟨⟨⟨h0, h2⟩, h3⟩, h1⟩; exact ⟨h0, h1, h2, h3⟩
theorem bel_of {w w' : World} (h : ∃ n, w' = w.drewN n) : Below w.heap.size w w' := by
  obtain ⟨n, rfl⟩ := h
  exact below_drewN (Below.refl _ _) n

theorem cash_len {W : World} {s : Lists} {l : Led} {vs : List (Value × Acc)} (hf : LedFit l) (h : LedAt W s l vs) : ∀ x ∈ vs, CashAt W x ∧ x.2.cash.length ≤ 9223372036854775807 := fun x hx => by
  refine ⟨h.cash x hx, ?_⟩
  have hm : x.2 ∈ l.accts := by
    rw [← h.each]
    exact List.mem_map_of_mem hx
  have := (hf.accts _ hm).2.2.2
  omega
/-- two ledgers' boxes -/
structure TwoLed (w W : World) (s : Lists) (l : Led) (vs : List (Value × Acc)) (r : Lists) (m : Led) (us : List (Value × Acc)) : Prop where
  one : LedH w W w.heap.size s l vs
  two : LedH w W (w.heap.size + 1) r m us
theorem TwoLed.keep {w A B : World} {s : Lists} {l : Led} {vs : List (Value × Acc)} {r : Lists} {m : Led} {us : List (Value × Acc)} (h : TwoLed w A s l vs r m us) (b : Below A.heap.size A B) : TwoLed w B s l vs r m us := ⟨h.one.keep b, h.two.keep b⟩
theorem twoLed_new (w : World) (s : Lists) (l : Led) (vs : List (Value × Acc)) (r : Lists) (m : Led) (us : List (Value × Acc)) (h1 : LedAt w s l vs) (h2 : LedAt w r m us) : TwoLed w ((w.alloc (.cells #[.int .i64 l.day, .slice s.a1 l.curs.length s.c1, .slice s.a2 l.unders.length s.c2, .slice s.a3 l.instrs.length s.c3, .slice s.a4 l.accts.length s.c4, .slice s.a5 l.poss.length s.c5, .slice s.a6 l.orders.length s.c6, .slice s.a7 l.avail.length s.c7, .slice s.a8 l.locs.length s.c8] 31)).alloc (.cells #[.int .i64 m.day, .slice r.a1 m.curs.length r.c1, .slice r.a2 m.unders.length r.c2, .slice r.a3 m.instrs.length r.c3, .slice r.a4 m.accts.length r.c4, .slice r.a5 m.poss.length r.c5, .slice r.a6 m.orders.length r.c6, .slice r.a7 m.avail.length r.c7, .slice r.a8 m.locs.length r.c8] 31)) s l vs r m us := by
  have X := ledH_new w s l vs h1
  have b : Below w.heap.size w (w.alloc (.cells #[.int .i64 l.day, .slice s.a1 l.curs.length s.c1, .slice s.a2 l.unders.length s.c2, .slice s.a3 l.instrs.length s.c3, .slice s.a4 l.accts.length s.c4, .slice s.a5 l.poss.length s.c5, .slice s.a6 l.orders.length s.c6, .slice s.a7 l.avail.length s.c7, .slice s.a8 l.locs.length s.c8] 31)) := X.low
  have Y := ledH_new (w.alloc (.cells #[.int .i64 l.day, .slice s.a1 l.curs.length s.c1, .slice s.a2 l.unders.length s.c2, .slice s.a3 l.instrs.length s.c3, .slice s.a4 l.accts.length s.c4, .slice s.a5 l.poss.length s.c5, .slice s.a6 l.orders.length s.c6, .slice s.a7 l.avail.length s.c7, .slice s.a8 l.locs.length s.c8] 31)) r m us (h2.keep b)
  rw [World.size_alloc] at Y
  exact ⟨X.alloc _, Y.box, Y.at_, b.trans (Y.low.mono (by rw [World.size_alloc]; omega))⟩
theorem led_eq (l m : Led) : decide (l = m) = (decide (l.day = m.day) && decide (l.curs = m.curs) && decide (l.unders = m.unders) && decide (l.instrs = m.instrs) && decide (l.poss = m.poss) && decide (l.orders = m.orders) && decide (l.avail = m.avail) && decide (l.locs = m.locs) && decide (l.accts = m.accts)) := by
  rw [Bool.eq_iff_iff]
  simp only [Bool.and_eq_true, decide_eq_true_eq]
  constructor
  · rintro rfl; simp
  · rintro ⟨⟨⟨⟨⟨⟨⟨⟨h1, h2⟩, h3⟩, h4⟩, h5⟩, h6⟩, h7⟩, h8⟩, h9⟩
    cases l; cases m
    simp only at h1 h2 h3 h4 h5 h6 h7 h8 h9
    subst h1 h2 h3 h4 h5 h6 h7 h8 h9
    rfl
end Go.Proofs.YtocjfjikkdpfdaaGreatDoor.LedW
namespace Go.Proofs.YtocjfjikkdpfdaaGreatDoor.LedW
open Go.RowKit Go.Proofs.YtocjfjikkdpfdaaGreatDoor.Bas Go.Proofs.YtocjfjikkdpfdaaGreatDoor.LedM

theorem drew_heap (w : World) : w.drew.heap = w.heap := rfl
theorem TwoLed.drewN {w A : World} {s : Lists} {l : Led} {vs : List (Value × Acc)} {r : Lists} {m : Led} {us : List (Value × Acc)} (h : TwoLed w A s l vs r m us) (n : Nat) : TwoLed w (A.drewN n) s l vs r m us := ⟨h.one.drewN n, h.two.drewN n⟩
theorem TwoLed.drew {w A : World} {s : Lists} {l : Led} {vs : List (Value × Acc)} {r : Lists} {m : Led} {us : List (Value × Acc)} (h : TwoLed w A s l vs r m us) : TwoLed w A.drew s l vs r m us := ⟨h.one.drew, h.two.drew⟩
section
variable {w W : World} {g : Nat} {s : Lists} {l : Led} {vs : List (Value × Acc)} {b off k : Nat} {x : Value × Acc}
theorem led_c4 (h : LedH w W g s l vs) (ha : s.a4 = some ⟨b, off, none⟩) : W.cell? ⟨g, 4, none⟩ = some (.slice (some ⟨b, off, none⟩) l.accts.length s.c4) := ha ▸ h.c4
theorem acc_c (h : LedH w W g s l vs) (ha : s.a4 = some ⟨b, off, none⟩) (hk : k < vs.length) (hx : vs[k] = x) (c : Nat) (u : Value) (hu : (accC x)[c]? = some u) : W.cell? ⟨b, off + k * 4 + c, none⟩ = some u := by
  obtain ⟨b', off', h1, h2⟩ := rec_at len_acc (by decide) h.at_.accts hk
  rw [ha] at h1
  cases h1
  rw [hx] at h2
  rw [Nat.add_assoc]
  exact h2 c u hu
theorem acc_c0 (h : LedH w W g s l vs) (ha : s.a4 = some ⟨b, off, none⟩) (hk : k < vs.length) (hx : vs[k] = x) : W.cell? ⟨b, off + k * 4, none⟩ = some (.int .i64 x.2.parent) := acc_c h ha hk hx 0 _ rfl
theorem acc_c1 (h : LedH w W g s l vs) (ha : s.a4 = some ⟨b, off, none⟩) (hk : k < vs.length) (hx : vs[k] = x) : W.cell? ⟨b, off + k * 4 + 1, none⟩ = some x.1 := acc_c h ha hk hx 1 _ rfl
theorem acc_c2 (h : LedH w W g s l vs) (ha : s.a4 = some ⟨b, off, none⟩) (hk : k < vs.length) (hx : vs[k] = x) : W.cell? ⟨b, off + k * 4 + 2, none⟩ = some (.bool x.2.flag) := acc_c h ha hk hx 2 _ rfl
theorem acc_c3 (h : LedH w W g s l vs) (ha : s.a4 = some ⟨b, off, none⟩) (hk : k < vs.length) (hx : vs[k] = x) : W.cell? ⟨b, off + k * 4 + 3, none⟩ = some (.int .i64 x.2.last) := acc_c h ha hk hx 3 _ rfl
end
theorem fill4_box {W : World} {g : Nat} {t : TypeId} {z0 z1 z2 z3 : Value} (hb : Box W g t #[z0, z1, z2, z3]) (v0 v1 v2 v3 : Value) : Box ((((W.setCell ⟨g, 0, none⟩ v0).setCell ⟨g, 1, none⟩ v1).setCell ⟨g, 2, none⟩ v2).setCell ⟨g, 3, none⟩ v3) g t #[v0, v1, v2, v3] := by
  have := (((hb.set 0 v0).set 1 v1).set 2 v2).set 3 v3
  simpa using this
theorem fill4_far {W : World} {g g' : Nat} {t : TypeId} {cs : Array Value} (hb : Box W g' t cs) (hne : g' ≠ g) (v0 v1 v2 v3 : Value) : Box ((((W.setCell ⟨g, 0, none⟩ v0).setCell ⟨g, 1, none⟩ v1).setCell ⟨g, 2, none⟩ v2).setCell ⟨g, 3, none⟩ v3) g' t cs :=
  (((hb.far (p := ⟨g, 0, none⟩) hne v0).far (p := ⟨g, 1, none⟩) hne v1).far (p := ⟨g, 2, none⟩) hne v2).far (p := ⟨g, 3, none⟩) hne v3
theorem fill4_low {n : Nat} {w W : World} (h : Below n w W) {g : Nat} (hg : n ≤ g) (v0 v1 v2 v3 : Value) : Below n w ((((W.setCell ⟨g, 0, none⟩ v0).setCell ⟨g, 1, none⟩ v1).setCell ⟨g, 2, none⟩ v2).setCell ⟨g, 3, none⟩ v3) :=
  (((h.setCell (p := ⟨g, 0, none⟩) hg v0).setCell (p := ⟨g, 1, none⟩) hg v1).setCell (p := ⟨g, 2, none⟩) hg v2).setCell (p := ⟨g, 3, none⟩) hg v3
set_option maxHeartbeats 8000000 in
set_option maxRecDepth 100000 in
theorem rsame_calls (s : Lists) (l : Led) (vs : List (Value × Acc)) (r : Lists) (m : Led) (us : List (Value × Acc)) (w : World) (h1 : LedAt w s l vs) (h2 : LedAt w r m us) (f1 : LedFit l) (f2 : LedFit m) :
    Calls Tryz.prog 10 #[ledV s l, ledV r m] w fun e w' => e = .returned (.bool (decide (l = m))) ∧ Below w.heap.size w w' := by
  have X := twoLed_new w s l vs r m us h1 h2
  unfold ledV
  obtain ⟨n1, n2, n3, n4, n5, n6, n7, n8⟩ := f1.len
  obtain ⟨m1, m2, m3, m4, m5, m6, m7, m8⟩ := f2.len
  have HV1 := Lib.hid (LedAt.len h1)
  have HV2 := Lib.hid (LedAt.len h2)
  have HC1 := Lib.hid (fun W (X : TwoLed w W s l vs r m us) => cash_len f1 X.one.at_)
  have HC2 := Lib.hid (fun W (X : TwoLed w W s l vs r m us) => cash_len f2 X.two.at_)
  have HE1 := Lib.hid h1.each
  have HE2 := Lib.hid h2.each
  have K5 := Lib.hid (fun W (X : TwoLed w W s l vs r m us) => rsame_pos s.a5 r.a5 s.c5 r.c5 l.poss m.poss W (by omega) (by omega) X.one.at_.poss X.two.at_.poss)
  have K6 := Lib.hid (fun W (X : TwoLed w W s l vs r m us) => rsame_ord s.a6 r.a6 s.c6 r.c6 l.orders m.orders W (by omega) (by omega) X.one.at_.orders X.two.at_.orders)
  have K7 := Lib.hid (fun W (X : TwoLed w W s l vs r m us) => rsame_int s.a7 r.a7 s.c7 r.c7 l.avail m.avail W (by omega) (by omega) X.one.at_.avail X.two.at_.avail)
  have K8 := Lib.hid (fun W (X : TwoLed w W s l vs r m us) => rsame_loc s.a8 r.a8 s.c8 r.c8 l.locs m.locs W (by omega) (by omega) X.one.at_.locs X.two.at_.locs)
  have HE := Lib.hid (led_eq l m)
  clear h1 h2 f1 f2
  generalize decide (l = m) = b at HE ⊢
  go_enter Tryz.func10, Tryz.ntmps10
  go_upto_region 1 with fail
  change Code.wp _ _ _ _ ((w.alloc (.cells #[.int .i64 l.day, .slice s.a1 l.curs.length s.c1, .slice s.a2 l.unders.length s.c2, .slice s.a3 l.instrs.length s.c3, .slice s.a4 l.accts.length s.c4, .slice s.a5 l.poss.length s.c5, .slice s.a6 l.orders.length s.c6, .slice s.a7 l.avail.length s.c7, .slice s.a8 l.locs.length s.c8] 31)).alloc (.cells #[.int .i64 m.day, .slice r.a1 m.curs.length r.c1, .slice r.a2 m.unders.length r.c2, .slice r.a3 m.instrs.length r.c3, .slice r.a4 m.accts.length r.c4, .slice r.a5 m.poss.length r.c5, .slice r.a6 m.orders.length r.c6, .slice r.a7 m.avail.length r.c7, .slice r.a8 m.locs.length r.c8] 31))
  generalize (w.alloc (.cells #[.int .i64 l.day, .slice s.a1 l.curs.length s.c1, .slice s.a2 l.unders.length s.c2, .slice s.a3 l.instrs.length s.c3, .slice s.a4 l.accts.length s.c4, .slice s.a5 l.poss.length s.c5, .slice s.a6 l.orders.length s.c6, .slice s.a7 l.avail.length s.c7, .slice s.a8 l.locs.length s.c8] 31)).alloc (.cells #[.int .i64 m.day, .slice r.a1 m.curs.length r.c1, .slice r.a2 m.unders.length r.c2, .slice r.a3 m.instrs.length r.c3, .slice r.a4 m.accts.length r.c4, .slice r.a5 m.poss.length r.c5, .slice r.a6 m.orders.length r.c6, .slice r.a7 m.avail.length r.c7, .slice r.a8 m.locs.length r.c8] 31) = w0 at *
  have x0 := X.one.c0
  have y0 := X.two.c0
  have x1 := X.one.c1
  have y1 := X.two.c1
  have x2 := X.one.c2
  have y2 := X.two.c2
  have x3 := X.one.c3
  have y3 := X.two.c3
  have x4 := X.one.c4
  have y4 := X.two.c4
  have XH := Lib.hid X
  clear X
  by_cases hd : l.day = m.day
  rotate_left
  · have hb : (l.day != m.day) = true := by simpa using hd
    have HX : Hid (b = false) := by unfold Hid; rw [HE.out, decide_eq_false hd]; simp
    clear hd HE
    go_wp2_with fail
    go_ret
    exact ⟨ret_bool HX.out.symm, XH.out.one.low⟩
  have hb : (l.day != m.day) = false := by simpa using hd
  have HD := Lib.hid (decide_eq_true hd)
  clear hd
  by_cases hl1 : l.curs.length = m.curs.length
  rotate_left
  · have hb1 : ((l.curs.length : Int) != (m.curs.length : Int)) = true := by simp; omega
    have HX : Hid (b = false) := by unfold Hid; rw [HE.out, decide_eq_false (fun h : l.curs = m.curs => hl1 (by rw [h]))]; simp
    clear hl1 HE
    go_wp2_with fail
    go_ret
    exact ⟨ret_bool HX.out.symm, XH.out.one.low⟩
  have hb1 : ((l.curs.length : Int) != (m.curs.length : Int)) = false := by simp [hl1]
  have HL1 := Lib.hid hl1
  clear hl1
  by_cases hl2 : l.unders.length = m.unders.length
  rotate_left
  · have hb2 : ((l.unders.length : Int) != (m.unders.length : Int)) = true := by simp; omega
    have HX : Hid (b = false) := by unfold Hid; rw [HE.out, decide_eq_false (fun h : l.unders = m.unders => hl2 (by rw [h]))]; simp
    clear hl2 HE
    go_wp2_with fail
    go_ret
    exact ⟨ret_bool HX.out.symm, XH.out.one.low⟩
  have hb2 : ((l.unders.length : Int) != (m.unders.length : Int)) = false := by simp [hl2]
  have HL2 := Lib.hid hl2
  clear hl2
  by_cases hl3 : l.instrs.length = m.instrs.length
  rotate_left
  · have hb3 : ((l.instrs.length : Int) != (m.instrs.length : Int)) = true := by simp; omega
    have HX : Hid (b = false) := by unfold Hid; rw [HE.out, decide_eq_false (fun h : l.instrs = m.instrs => hl3 (by rw [h]))]; simp
    clear hl3 HE
    go_wp2_with fail
    go_ret
    exact ⟨ret_bool HX.out.symm, XH.out.one.low⟩
  have hb3 : ((l.instrs.length : Int) != (m.instrs.length : Int)) = false := by simp [hl3]
  have HL3 := Lib.hid hl3
  clear hl3
  by_cases hl4 : l.accts.length = m.accts.length
  rotate_left
  · have hb4 : ((l.accts.length : Int) != (m.accts.length : Int)) = true := by simp; omega
    have HX : Hid (b = false) := by unfold Hid; rw [HE.out, decide_eq_false (fun h : l.accts = m.accts => hl4 (by rw [h]))]; simp
    clear hl4 HE
    go_wp2_with fail
    go_ret
    exact ⟨ret_bool HX.out.symm, XH.out.one.low⟩
  have hb4 : ((l.accts.length : Int) != (m.accts.length : Int)) = false := by simp [hl4]
  have HL4 := Lib.hid hl4
  clear hl4
  go_wp2_with fail
  clear x0 y0 x1 y1 x2 y2 x3 y3 x4 y4
  go_loopw [55] (fun i wr => ∃ k : Nat, k ≤ l.curs.length ∧ i = .int .i64 k ∧ TwoLed w wr s l vs r m us ∧ Hid (l.curs.take k = m.curs.take k)) (fun i _ => l.curs.length - (intOf i).toNat)
  case atStart => exact ⟨0, by omega, rfl, XH.out, by simp [Hid]⟩
  case round =>
    clear XH
    obtain ⟨k, hk, rfl, X, H⟩ := hrel
    by_cases hlt : k < l.curs.length
    · have hlt2 : k < m.curs.length := by have := HL1.out; omega
      obtain ⟨b1, off1, ha1, C1⟩ := rec_at len_cur (by decide) X.one.at_.curs hlt
      obtain ⟨b2, off2, ha2, C2⟩ := rec_at len_cur (by decide) X.two.at_.curs hlt2
      have e1 := X.one.c1
      have e2 := X.two.c1
      rw [ha1] at e1
      rw [ha2] at e2
      clear ha1 ha2
      have hm := take_eq_succ l.curs m.curs k hlt hlt2
      generalize hxk : l.curs[k] = x at *
      generalize hyk : m.curs[k] = y at *
      have HXK := Lib.hid hxk
      have HYK := Lib.hid hyk
      have XH := Lib.hid X
      clear hxk hyk X
      obtain ⟨x0, x1⟩ := x
      obtain ⟨y0, y1⟩ := y
      have c0 := C1 0 _ rfl
      have c1 := C1 1 _ rfl
      have d0 := C2 0 _ rfl
      have d1 := C2 1 _ rfl
      clear C1 C2
      simp only [← Nat.add_assoc, Nat.add_zero] at c0 c1 d0 d1
      by_cases he : ((x0, x1) : (Int × Int)) = (y0, y1)
      · have HI : Hid (l.curs.take (k + 1) = m.curs.take (k + 1)) := hm.2 ⟨H.out, he⟩
        cases he
        have hq := fun W => neq_cur W x0 x1 x0 x1
        simp only [beq_self_eq_true, Bool.and_self, Bool.not_true] at hq
        clear hm H
        go_wp2_with fail
        go_quiet (fail)
        all_goals
          go_wp2_with fail
          go_roundw
          case rel => exact ⟨k + 1, by omega, by go_num, by first | exact XH.out.drewN _ | exact XH.out.drew, HI⟩
          case measure => simp [intOf]; omega
      · have HN : l.curs ≠ m.curs := fun h => he (HXK.out.symm.trans ((by simp only [h] : l.curs[k] = m.curs[k]).trans HYK.out))
        have HX : Hid (b = false) := by unfold Hid; rw [HE.out, decide_eq_false HN]; simp
        have heb : (!((x0 == y0) && (x1 == y1))) = true := by
          rw [Bool.not_eq_true', Bool.eq_false_iff]
          intro h
          simp only [Bool.and_eq_true, beq_iff_eq] at h
          exact he (by simp [h])
        have hq := fun W => neq_cur W x0 x1 y0 y1
        rw [heb] at hq
        clear hm H heb he HN HE
        go_wp2_with fail
        go_quiet (fail)
        all_goals
          go_wp2_with fail
          go_ret
          exact ⟨ret_bool HX.out.symm, by first | exact below_drewN XH.out.one.low _ | exact XH.out.one.low.drew⟩
    · have hkk : k = l.curs.length := by omega
      subst hkk
      have HI1 : Hid (decide (l.curs = m.curs) = true) := by
        have := H.out
        rw [List.take_length, HL1.out, List.take_length] at this
        exact decide_eq_true this
      clear H
      have x2 := X.one.c2
      have y2 := X.two.c2
      have XH1 := Lib.hid X
      clear X
      go_wp2_with fail
      clear x2 y2
      go_loopw [73] (fun i wr => ∃ k : Nat, k ≤ l.unders.length ∧ i = .int .i64 k ∧ TwoLed w wr s l vs r m us ∧ Hid (l.unders.take k = m.unders.take k)) (fun i _ => l.unders.length - (intOf i).toNat)
      case atStart => exact ⟨0, by omega, rfl, XH1.out, by simp [Hid]⟩
      case round =>
        clear XH1
        obtain ⟨k, hk, rfl, X, H⟩ := hrel
        by_cases hlt : k < l.unders.length
        · have hlt2 : k < m.unders.length := by have := HL2.out; omega
          obtain ⟨b1, off1, ha1, C1⟩ := rec_at len_und (by decide) X.one.at_.unders hlt
          obtain ⟨b2, off2, ha2, C2⟩ := rec_at len_und (by decide) X.two.at_.unders hlt2
          have e1 := X.one.c2
          have e2 := X.two.c2
          rw [ha1] at e1
          rw [ha2] at e2
          clear ha1 ha2
          have hm := take_eq_succ l.unders m.unders k hlt hlt2
          generalize hxk : l.unders[k] = x at *
          generalize hyk : m.unders[k] = y at *
          have HXK := Lib.hid hxk
          have HYK := Lib.hid hyk
          have XH := Lib.hid X
          clear hxk hyk X
          obtain ⟨x0, x1, x2, x3⟩ := x
          obtain ⟨y0, y1, y2, y3⟩ := y
          have c0 := C1 0 _ rfl
          have c1 := C1 1 _ rfl
          have c2 := C1 2 _ rfl
          have c3 := C1 3 _ rfl
          have d0 := C2 0 _ rfl
          have d1 := C2 1 _ rfl
          have d2 := C2 2 _ rfl
          have d3 := C2 3 _ rfl
          clear C1 C2
          simp only [← Nat.add_assoc, Nat.add_zero] at c0 c1 c2 c3 d0 d1 d2 d3
          by_cases he : (⟨x0, x1, x2, x3⟩ : Und) = ⟨y0, y1, y2, y3⟩
          · have HI : Hid (l.unders.take (k + 1) = m.unders.take (k + 1)) := hm.2 ⟨H.out, he⟩
            cases he
            have hq := fun W => neq_und W x0 x1 x2 x3 x0 x1 x2 x3
            simp only [beq_self_eq_true, Bool.and_self, Bool.not_true] at hq
            clear hm H
            go_wp2_with fail
            go_quiet (fail)
            all_goals
              go_wp2_with fail
              go_roundw
              case rel => exact ⟨k + 1, by omega, by go_num, by first | exact XH.out.drewN _ | exact XH.out.drew, HI⟩
              case measure => simp [intOf]; omega
          · have HN : l.unders ≠ m.unders := fun h => he (HXK.out.symm.trans ((by simp only [h] : l.unders[k] = m.unders[k]).trans HYK.out))
            have HX : Hid (b = false) := by unfold Hid; rw [HE.out, decide_eq_false HN]; simp
            have heb : (!((x0 == y0) && (x1 == y1) && (x2 == y2) && (x3 == y3))) = true := by
              rw [Bool.not_eq_true', Bool.eq_false_iff]
              intro h
              simp only [Bool.and_eq_true, beq_iff_eq] at h
              exact he (by simp [h])
            have hq := fun W => neq_und W x0 x1 x2 x3 y0 y1 y2 y3
            rw [heb] at hq
            clear hm H heb he HN HE
            go_wp2_with fail
            go_quiet (fail)
            all_goals
              go_wp2_with fail
              go_ret
              exact ⟨ret_bool HX.out.symm, by first | exact below_drewN XH.out.one.low _ | exact XH.out.one.low.drew⟩
        · have hkk : k = l.unders.length := by omega
          subst hkk
          have HI2 : Hid (decide (l.unders = m.unders) = true) := by
            have := H.out
            rw [List.take_length, HL2.out, List.take_length] at this
            exact decide_eq_true this
          clear H
          have x3 := X.one.c3
          have y3 := X.two.c3
          have XH2 := Lib.hid X
          clear X
          go_wp2_with fail
          clear x3 y3
          go_loopw [91] (fun i wr => ∃ k : Nat, k ≤ l.instrs.length ∧ i = .int .i64 k ∧ TwoLed w wr s l vs r m us ∧ Hid (l.instrs.take k = m.instrs.take k)) (fun i _ => l.instrs.length - (intOf i).toNat)
          case atStart => exact ⟨0, by omega, rfl, XH2.out, by simp [Hid]⟩
          case round =>
            clear XH2
            obtain ⟨k, hk, rfl, X, H⟩ := hrel
            by_cases hlt : k < l.instrs.length
            · have hlt2 : k < m.instrs.length := by have := HL3.out; omega
              obtain ⟨b1, off1, ha1, C1⟩ := rec_at len_ins (by decide) X.one.at_.instrs hlt
              obtain ⟨b2, off2, ha2, C2⟩ := rec_at len_ins (by decide) X.two.at_.instrs hlt2
              have e1 := X.one.c3
              have e2 := X.two.c3
              rw [ha1] at e1
              rw [ha2] at e2
              clear ha1 ha2
              have hm := take_eq_succ l.instrs m.instrs k hlt hlt2
              generalize hxk : l.instrs[k] = x at *
              generalize hyk : m.instrs[k] = y at *
              have HXK := Lib.hid hxk
              have HYK := Lib.hid hyk
              have XH := Lib.hid X
              clear hxk hyk X
              obtain ⟨x0, x1, x2, x3, x4, x5, x6⟩ := x
              obtain ⟨y0, y1, y2, y3, y4, y5, y6⟩ := y
              have c0 := C1 0 _ rfl
              have c1 := C1 1 _ rfl
              have c2 := C1 2 _ rfl
              have c3 := C1 3 _ rfl
              have c4 := C1 4 _ rfl
              have c5 := C1 5 _ rfl
              have c6 := C1 6 _ rfl
              have d0 := C2 0 _ rfl
              have d1 := C2 1 _ rfl
              have d2 := C2 2 _ rfl
              have d3 := C2 3 _ rfl
              have d4 := C2 4 _ rfl
              have d5 := C2 5 _ rfl
              have d6 := C2 6 _ rfl
              clear C1 C2
              simp only [← Nat.add_assoc, Nat.add_zero] at c0 c1 c2 c3 c4 c5 c6 d0 d1 d2 d3 d4 d5 d6
              by_cases he : (⟨x0, x1, x2, x3, x4, x5, x6⟩ : Ins) = ⟨y0, y1, y2, y3, y4, y5, y6⟩
              · have HI : Hid (l.instrs.take (k + 1) = m.instrs.take (k + 1)) := hm.2 ⟨H.out, he⟩
                cases he
                have hq := fun W => neq_ins W x0 x1 x2 x3 x4 x5 x6 x0 x1 x2 x3 x4 x5 x6
                simp only [beq_self_eq_true, Bool.and_self, Bool.not_true] at hq
                clear hm H
                go_wp2_with fail
                go_quiet (fail)
                all_goals
                  go_wp2_with fail
                  go_roundw
                  case rel => exact ⟨k + 1, by omega, by go_num, by first | exact XH.out.drewN _ | exact XH.out.drew, HI⟩
                  case measure => simp [intOf]; omega
              · have HN : l.instrs ≠ m.instrs := fun h => he (HXK.out.symm.trans ((by simp only [h] : l.instrs[k] = m.instrs[k]).trans HYK.out))
                have HX : Hid (b = false) := by unfold Hid; rw [HE.out, decide_eq_false HN]; simp
                have heb : (!((x0 == y0) && (x1 == y1) && (x2 == y2) && (x3 == y3) && (x4 == y4) && (x5 == y5) && (x6 == y6))) = true := by
                  rw [Bool.not_eq_true', Bool.eq_false_iff]
                  intro h
                  simp only [Bool.and_eq_true, beq_iff_eq] at h
                  exact he (by simp [h])
                have hq := fun W => neq_ins W x0 x1 x2 x3 x4 x5 x6 y0 y1 y2 y3 y4 y5 y6
                rw [heb] at hq
                clear hm H heb he HN HE
                go_wp2_with fail
                go_quiet (fail)
                all_goals
                  go_wp2_with fail
                  go_ret
                  exact ⟨ret_bool HX.out.symm, by first | exact below_drewN XH.out.one.low _ | exact XH.out.one.low.drew⟩
            · have hkk : k = l.instrs.length := by omega
              subst hkk
              have HI3 : Hid (decide (l.instrs = m.instrs) = true) := by
                have := H.out
                rw [List.take_length, HL3.out, List.take_length] at this
                exact decide_eq_true this
              clear H
              have x4 := X.one.c4
              have y4 := X.two.c4
              have XH3 := Lib.hid X
              clear X
              go_wp2_with fail
              clear x4 y4
              go_loopw [109] (fun i wr => ∃ k : Nat, k ≤ l.accts.length ∧ i = .int .i64 k ∧ TwoLed w wr s l vs r m us ∧ Hid (l.accts.take k = m.accts.take k)) (fun i _ => l.accts.length - (intOf i).toNat)
              case atStart => exact ⟨0, by omega, rfl, XH3.out, by simp [Hid]⟩
              case round =>
                clear XH3
                obtain ⟨k, hk, rfl, X, H⟩ := hrel
                by_cases hlt : k < l.accts.length
                · have hlt2 : k < m.accts.length := by have := HL4.out; omega
                  have hlv : k < vs.length := by rw [HV1.out]; exact hlt
                  have hlu : k < us.length := by rw [HV2.out]; exact hlt2
                  obtain ⟨b1, off1, ha1, _⟩ := rec_at len_acc (by decide) X.one.at_.accts hlv
                  obtain ⟨b2, off2, ha2, _⟩ := rec_at len_acc (by decide) X.two.at_.accts hlu
                  have hm := take_eq_succ l.accts m.accts k hlt hlt2
                  have hcx := HC1.out _ X _ (List.getElem_mem hlv)
                  have hcy := HC2.out _ X _ (List.getElem_mem hlu)
                  have ex : vs[k].2 = l.accts[k] := LedAt.acc X.one.at_ hlv hlt
                  have ey : us[k].2 = m.accts[k] := LedAt.acc X.two.at_ hlu hlt2
                  have HXK : Hid (l.accts = m.accts → vs[k].2 = us[k].2) := fun h => by rw [ex, ey]; simp only [h]
                  rw [← ex, ← ey] at hm
                  clear ex ey
                  generalize hxk : vs[k] = x at *
                  generalize hyk : us[k] = y at *
                  obtain ⟨xv, x0, x1, x2, x3⟩ := x
                  obtain ⟨yv, y0, y1, y2, y3⟩ := y
                  obtain ⟨⟨ca, cc, hxv, _, hca⟩, bx⟩ := hcx
                  obtain ⟨⟨cb, cd, hyv, _, hcb⟩, by_⟩ := hcy
                  simp only at hxv hyv hca hcb bx by_ hm HXK
                  subst hxv hyv
                  have HX1 := Lib.hid hxk
                  have HU1 := Lib.hid hyk
                  have HA1 := Lib.hid ha1
                  have HA2 := Lib.hid ha2
                  have HM := Lib.hid hm
                  have HCA := Lib.hid hca
                  have HCB := Lib.hid hcb
                  have XH := Lib.hid X
                  clear hxk hyk ha1 ha2 hm hca hcb X
                  go_upto_region 24 with fail
                  refine stage_region 13 (fun W => W.cell? ⟨w.heap.size, 4, none⟩ = some (.slice (some ⟨b1, off1, none⟩) l.accts.length s.c4) ∧ W.cell? ⟨b1, off1 + k * 4, none⟩ = some (.int .i64 x0) ∧ W.cell? ⟨b1, off1 + k * 4 + 1, none⟩ = some (.slice ca x1.length cc) ∧ W.cell? ⟨b1, off1 + k * 4 + 2, none⟩ = some (.bool x2) ∧ W.cell? ⟨b1, off1 + k * 4 + 3, none⟩ = some (.int .i64 x3) ∧ W.cell? ⟨w.heap.size + 1, 4, none⟩ = some (.slice (some ⟨b2, off2, none⟩) m.accts.length r.c4) ∧ W.cell? ⟨b2, off2 + k * 4, none⟩ = some (.int .i64 y0) ∧ W.cell? ⟨b2, off2 + k * 4 + 1, none⟩ = some (.slice cb y1.length cd) ∧ W.cell? ⟨b2, off2 + k * 4 + 2, none⟩ = some (.bool y2) ∧ W.cell? ⟨b2, off2 + k * 4 + 3, none⟩ = some (.int .i64 y3) ∧ TwoLed w W s l vs r m us) (by kernel_rfl) ?_
                  have HS := XH.out.drew
                  refine' stage_take (i := 0) _ rfl (by kernel_rfl) (by kernel_rfl) (by kernel_rfl) (by kernel_rfl) (fun _ _ _ h => h) ⟨led_c4 HS.one HA1.out, acc_c0 HS.one HA1.out hlv HX1.out, acc_c1 HS.one HA1.out hlv HX1.out, acc_c2 HS.one HA1.out hlv HX1.out, acc_c3 HS.one HA1.out hlv HX1.out, led_c4 HS.two HA2.out, acc_c0 HS.two HA2.out hlu HU1.out, acc_c1 HS.two HA2.out hlu HU1.out, acc_c2 HS.two HA2.out hlu HU1.out, acc_c3 HS.two HA2.out hlu HU1.out, HS⟩ _ (fun W hW => _) _
                  rotate_left
                  focus (go_simp; done)
                  focus (obtain ⟨k1, k2, k3, k4, k5, k6, k7, k8, k9, k10, X9⟩ := hW; go_simp; first | done | (with_reducible rfl))
                  simp only [Act.put, List.setIfInBounds_toArray, List.set_cons_zero, List.set_cons_succ]
                  refine' stage_take (i := 1) _ rfl (by kernel_rfl) (by kernel_rfl) (by kernel_rfl) (by kernel_rfl) (fun _ _ _ h => h) ⟨led_c4 HS.one HA1.out, acc_c0 HS.one HA1.out hlv HX1.out, acc_c1 HS.one HA1.out hlv HX1.out, acc_c2 HS.one HA1.out hlv HX1.out, acc_c3 HS.one HA1.out hlv HX1.out, led_c4 HS.two HA2.out, acc_c0 HS.two HA2.out hlu HU1.out, acc_c1 HS.two HA2.out hlu HU1.out, acc_c2 HS.two HA2.out hlu HU1.out, acc_c3 HS.two HA2.out hlu HU1.out, HS⟩ _ (fun W hW => _) _
                  rotate_left
                  focus (go_simp; done)
                  focus (obtain ⟨k1, k2, k3, k4, k5, k6, k7, k8, k9, k10, X9⟩ := hW; go_simp; first | done | (with_reducible rfl))
                  simp only [Act.put, List.setIfInBounds_toArray, List.set_cons_zero, List.set_cons_succ]
                  refine' stage_take (i := 2) _ rfl (by kernel_rfl) (by kernel_rfl) (by kernel_rfl) (by kernel_rfl) (fun _ _ _ h => h) ⟨led_c4 HS.one HA1.out, acc_c0 HS.one HA1.out hlv HX1.out, acc_c1 HS.one HA1.out hlv HX1.out, acc_c2 HS.one HA1.out hlv HX1.out, acc_c3 HS.one HA1.out hlv HX1.out, led_c4 HS.two HA2.out, acc_c0 HS.two HA2.out hlu HU1.out, acc_c1 HS.two HA2.out hlu HU1.out, acc_c2 HS.two HA2.out hlu HU1.out, acc_c3 HS.two HA2.out hlu HU1.out, HS⟩ _ (fun W hW => _) _
                  rotate_left
                  focus (go_simp; done)
                  focus (obtain ⟨k1, k2, k3, k4, k5, k6, k7, k8, k9, k10, X9⟩ := hW; go_simp; first | done | (with_reducible rfl))
                  simp only [Act.put, List.setIfInBounds_toArray, List.set_cons_zero, List.set_cons_succ]
                  refine' stage_take (i := 3) _ rfl (by kernel_rfl) (by kernel_rfl) (by kernel_rfl) (by kernel_rfl) (fun _ _ _ h => h) ⟨led_c4 HS.one HA1.out, acc_c0 HS.one HA1.out hlv HX1.out, acc_c1 HS.one HA1.out hlv HX1.out, acc_c2 HS.one HA1.out hlv HX1.out, acc_c3 HS.one HA1.out hlv HX1.out, led_c4 HS.two HA2.out, acc_c0 HS.two HA2.out hlu HU1.out, acc_c1 HS.two HA2.out hlu HU1.out, acc_c2 HS.two HA2.out hlu HU1.out, acc_c3 HS.two HA2.out hlu HU1.out, HS⟩ _ (fun W hW => _) _
                  rotate_left
                  focus (go_simp; done)
                  focus (obtain ⟨k1, k2, k3, k4, k5, k6, k7, k8, k9, k10, X9⟩ := hW; go_simp; first | done | (with_reducible rfl))
                  simp only [Act.put, List.setIfInBounds_toArray, List.set_cons_zero, List.set_cons_succ]
                  refine' stage_take (i := 4) _ rfl (by kernel_rfl) (by kernel_rfl) (by kernel_rfl) (by kernel_rfl) (fun _ _ _ h => h) ⟨led_c4 HS.one HA1.out, acc_c0 HS.one HA1.out hlv HX1.out, acc_c1 HS.one HA1.out hlv HX1.out, acc_c2 HS.one HA1.out hlv HX1.out, acc_c3 HS.one HA1.out hlv HX1.out, led_c4 HS.two HA2.out, acc_c0 HS.two HA2.out hlu HU1.out, acc_c1 HS.two HA2.out hlu HU1.out, acc_c2 HS.two HA2.out hlu HU1.out, acc_c3 HS.two HA2.out hlu HU1.out, HS⟩ _ (fun W hW => _) _
                  rotate_left
                  focus (go_simp; done)
                  focus (obtain ⟨k1, k2, k3, k4, k5, k6, k7, k8, k9, k10, X9⟩ := hW; go_simp; first | done | (with_reducible rfl))
                  simp only [Act.put, List.setIfInBounds_toArray, List.set_cons_zero, List.set_cons_succ]
                  refine' stage_take (i := 5) _ rfl (by kernel_rfl) (by kernel_rfl) (by kernel_rfl) (by kernel_rfl) (fun _ _ _ h => h) ⟨led_c4 HS.one HA1.out, acc_c0 HS.one HA1.out hlv HX1.out, acc_c1 HS.one HA1.out hlv HX1.out, acc_c2 HS.one HA1.out hlv HX1.out, acc_c3 HS.one HA1.out hlv HX1.out, led_c4 HS.two HA2.out, acc_c0 HS.two HA2.out hlu HU1.out, acc_c1 HS.two HA2.out hlu HU1.out, acc_c2 HS.two HA2.out hlu HU1.out, acc_c3 HS.two HA2.out hlu HU1.out, HS⟩ _ (fun W hW => _) _
                  rotate_left
                  focus (go_simp; done)
                  focus (obtain ⟨k1, k2, k3, k4, k5, k6, k7, k8, k9, k10, X9⟩ := hW; go_simp; first | done | (with_reducible rfl))
                  simp only [Act.put, List.setIfInBounds_toArray, List.set_cons_zero, List.set_cons_succ]
                  refine' stage_take (i := 6) _ rfl (by kernel_rfl) (by kernel_rfl) (by kernel_rfl) (by kernel_rfl) (fun _ _ _ h => h) ⟨led_c4 HS.one HA1.out, acc_c0 HS.one HA1.out hlv HX1.out, acc_c1 HS.one HA1.out hlv HX1.out, acc_c2 HS.one HA1.out hlv HX1.out, acc_c3 HS.one HA1.out hlv HX1.out, led_c4 HS.two HA2.out, acc_c0 HS.two HA2.out hlu HU1.out, acc_c1 HS.two HA2.out hlu HU1.out, acc_c2 HS.two HA2.out hlu HU1.out, acc_c3 HS.two HA2.out hlu HU1.out, HS⟩ _ (fun W hW => _) _
                  rotate_left
                  focus (go_simp; done)
                  focus (obtain ⟨k1, k2, k3, k4, k5, k6, k7, k8, k9, k10, X9⟩ := hW; go_simp; first | done | (with_reducible rfl))
                  simp only [Act.put, List.setIfInBounds_toArray, List.set_cons_zero, List.set_cons_succ]
                  refine' stage_take (i := 7) _ rfl (by kernel_rfl) (by kernel_rfl) (by kernel_rfl) (by kernel_rfl) (fun _ _ _ h => h) ⟨led_c4 HS.one HA1.out, acc_c0 HS.one HA1.out hlv HX1.out, acc_c1 HS.one HA1.out hlv HX1.out, acc_c2 HS.one HA1.out hlv HX1.out, acc_c3 HS.one HA1.out hlv HX1.out, led_c4 HS.two HA2.out, acc_c0 HS.two HA2.out hlu HU1.out, acc_c1 HS.two HA2.out hlu HU1.out, acc_c2 HS.two HA2.out hlu HU1.out, acc_c3 HS.two HA2.out hlu HU1.out, HS⟩ _ (fun W hW => _) _
                  rotate_left
                  focus (go_simp; done)
                  focus (obtain ⟨k1, k2, k3, k4, k5, k6, k7, k8, k9, k10, X9⟩ := hW; go_simp; first | done | (with_reducible rfl))
                  simp only [Act.put, List.setIfInBounds_toArray, List.set_cons_zero, List.set_cons_succ]
                  refine' stage_take (i := 8) _ rfl (by kernel_rfl) (by kernel_rfl) (by kernel_rfl) (by kernel_rfl) (fun _ _ _ h => h) ⟨led_c4 HS.one HA1.out, acc_c0 HS.one HA1.out hlv HX1.out, acc_c1 HS.one HA1.out hlv HX1.out, acc_c2 HS.one HA1.out hlv HX1.out, acc_c3 HS.one HA1.out hlv HX1.out, led_c4 HS.two HA2.out, acc_c0 HS.two HA2.out hlu HU1.out, acc_c1 HS.two HA2.out hlu HU1.out, acc_c2 HS.two HA2.out hlu HU1.out, acc_c3 HS.two HA2.out hlu HU1.out, HS⟩ _ (fun W hW => _) _
                  rotate_left
                  focus (go_simp; done)
                  focus (obtain ⟨k1, k2, k3, k4, k5, k6, k7, k8, k9, k10, X9⟩ := hW; go_simp; first | done | (with_reducible rfl))
                  simp only [Act.put, List.setIfInBounds_toArray, List.set_cons_zero, List.set_cons_succ]
                  refine' stage_take (i := 9) _ rfl (by kernel_rfl) (by kernel_rfl) (by kernel_rfl) (by kernel_rfl) (fun _ _ _ h => h) ⟨led_c4 HS.one HA1.out, acc_c0 HS.one HA1.out hlv HX1.out, acc_c1 HS.one HA1.out hlv HX1.out, acc_c2 HS.one HA1.out hlv HX1.out, acc_c3 HS.one HA1.out hlv HX1.out, led_c4 HS.two HA2.out, acc_c0 HS.two HA2.out hlu HU1.out, acc_c1 HS.two HA2.out hlu HU1.out, acc_c2 HS.two HA2.out hlu HU1.out, acc_c3 HS.two HA2.out hlu HU1.out, HS⟩ _ (fun W hW => _) _
                  rotate_left
                  focus (go_simp; done)
                  focus (obtain ⟨k1, k2, k3, k4, k5, k6, k7, k8, k9, k10, X9⟩ := hW; go_simp; first | done | (with_reducible rfl))
                  simp only [Act.put, List.setIfInBounds_toArray, List.set_cons_zero, List.set_cons_succ]
                  clear HS
                  have LB : Below wr.heap.size wr wr.drew := (Below.refl _ _).drew
                  refine stage_both (i := 10) (j := 11) rfl rfl (by kernel_rfl) ?_ ?_ (fun K hK => ?_) (fun K hK => ?_)
                  focus (go_simp; done)
                  focus (go_simp; done)
                  · go_simp
                    have HS := XH.out.keep (LB.alloc (Nat.le_refl _) (.cells #[.int .i64 0, .slice none 0 0, .bool false, .int .i64 0] 46))
                    refine hK.out _ _ (fun _ => ⟨led_c4 HS.one HA1.out, acc_c0 HS.one HA1.out hlv HX1.out, acc_c1 HS.one HA1.out hlv HX1.out, acc_c2 HS.one HA1.out hlv HX1.out, acc_c3 HS.one HA1.out hlv HX1.out, led_c4 HS.two HA2.out, acc_c0 HS.two HA2.out hlu HU1.out, acc_c1 HS.two HA2.out hlu HU1.out, acc_c2 HS.two HA2.out hlu HU1.out, acc_c3 HS.two HA2.out hlu HU1.out, HS⟩) ?_
                    clear hK K HS
                    try simp only [Act.put, List.setIfInBounds_toArray, List.set_cons_zero, List.set_cons_succ]
                    refine stage_only (i := 11) rfl (by kernel_rfl) ?_ (fun K hK => ?_)
                    focus (go_simp; done)
                    go_simp
                    have LB2 := (LB.alloc (Nat.le_refl _) (.cells #[.int .i64 0, .slice none 0 0, .bool false, .int .i64 0] 46)).alloc (by simp) (.cells #[.int .i64 0, .slice none 0 0, .bool false, .int .i64 0] 46)
                    have HS := XH.out.keep LB2
                    refine hK.out _ _ (fun _ => ⟨led_c4 HS.one HA1.out, acc_c0 HS.one HA1.out hlv HX1.out, acc_c1 HS.one HA1.out hlv HX1.out, acc_c2 HS.one HA1.out hlv HX1.out, acc_c3 HS.one HA1.out hlv HX1.out, led_c4 HS.two HA2.out, acc_c0 HS.two HA2.out hlu HU1.out, acc_c1 HS.two HA2.out hlu HU1.out, acc_c2 HS.two HA2.out hlu HU1.out, acc_c3 HS.two HA2.out hlu HU1.out, HS⟩) ?_
                    clear hK K HS LB
                    try simp only [Act.put, List.setIfInBounds_toArray, List.set_cons_zero, List.set_cons_succ]
                    have Ga : Box ((wr.drew.alloc (.cells #[.int .i64 0, .slice none 0 0, .bool false, .int .i64 0] 46)).alloc (.cells #[.int .i64 0, .slice none 0 0, .bool false, .int .i64 0] 46)) wr.heap.size 46 #[.int .i64 0, .slice none 0 0, .bool false, .int .i64 0] := (Box.new wr.drew 46 #[.int .i64 0, .slice none 0 0, .bool false, .int .i64 0]).alloc (.cells #[.int .i64 0, .slice none 0 0, .bool false, .int .i64 0] 46)
                    have Gb : Box ((wr.drew.alloc (.cells #[.int .i64 0, .slice none 0 0, .bool false, .int .i64 0] 46)).alloc (.cells #[.int .i64 0, .slice none 0 0, .bool false, .int .i64 0] 46)) (wr.heap.size + 1) 46 #[.int .i64 0, .slice none 0 0, .bool false, .int .i64 0] := by
                      have := Box.new (wr.drew.alloc (.cells #[.int .i64 0, .slice none 0 0, .bool false, .int .i64 0] 46)) 46 #[.int .i64 0, .slice none 0 0, .bool false, .int .i64 0]
                      rw [World.size_alloc] at this
                      exact this
                    have LB := LB2
                    clear LB2
                    change Stage _ _ _ _ _ _ _ _ ((wr.drew.alloc (.cells #[.int .i64 0, .slice none 0 0, .bool false, .int .i64 0] 46)).alloc (.cells #[.int .i64 0, .slice none 0 0, .bool false, .int .i64 0] 46))
                    generalize (wr.drew.alloc (.cells #[.int .i64 0, .slice none 0 0, .bool false, .int .i64 0] 46)).alloc (.cells #[.int .i64 0, .slice none 0 0, .bool false, .int .i64 0] 46) = wa at *
                    obtain ⟨g9, e9⟩ : ∃ g, g = wr.heap.size := ⟨_, rfl⟩
                    obtain ⟨g10, e10⟩ : ∃ g, g = wr.heap.size + 1 := ⟨_, rfl⟩
                    have hg9 : wr.heap.size ≤ g9 := by omega
                    have hg10 : wr.heap.size ≤ g10 := by omega
                    have hgne : g10 ≠ g9 := by omega
                    have G9h : Hid (Box wa g9 46 #[.int .i64 0, .slice none 0 0, .bool false, .int .i64 0]) := by rw [e9]; exact Ga
                    have G10h : Hid (Box wa g10 46 #[.int .i64 0, .slice none 0 0, .bool false, .int .i64 0]) := by rw [e10]; exact Gb
                    try simp only [drew_heap]
                    simp only [← e10]
                    simp only [← e9]
                    clear Ga Gb e9 e10
                    have G9 := G9h.out
                    have G10 := G10h.out
                    have HS := XH.out.keep LB
                    have f0 : wa.cell? ⟨g9, 0, none⟩ = some (.int .i64 0) := G9.cell 0
                    have r0 : wa.frozen? ⟨g9, 0, none⟩ = false := G9.frozen 0
                    have f1 : wa.cell? ⟨g9, 1, none⟩ = some (.slice none 0 0) := G9.cell 1
                    have r1 : wa.frozen? ⟨g9, 1, none⟩ = false := G9.frozen 1
                    have f2 : wa.cell? ⟨g9, 2, none⟩ = some (.bool false) := G9.cell 2
                    have r2 : wa.frozen? ⟨g9, 2, none⟩ = false := G9.frozen 2
                    have f3 : wa.cell? ⟨g9, 3, none⟩ = some (.int .i64 0) := G9.cell 3
                    have r3 : wa.frozen? ⟨g9, 3, none⟩ = false := G9.frozen 3
                    refine stage_only (i := 12) rfl (by kernel_rfl) ?_ (fun K hK => ?_)
                    focus (go_simp; done)
                    go_simp
                    clear f0 r0 f1 r1 f2 r2 f3 r3
                    replace LB := fill4_low LB hg9 (.int .i64 x0) (.slice ca x1.length cc) (.bool x2) (.int .i64 x3)
                    replace G10 := fill4_far G10 hgne (.int .i64 x0) (.slice ca x1.length cc) (.bool x2) (.int .i64 x3)
                    replace G9 := fill4_box G9 (.int .i64 x0) (.slice ca x1.length cc) (.bool x2) (.int .i64 x3)
                    replace HS := XH.out.keep LB
                    refine hK.out _ _ (fun _ => ⟨led_c4 HS.one HA1.out, acc_c0 HS.one HA1.out hlv HX1.out, acc_c1 HS.one HA1.out hlv HX1.out, acc_c2 HS.one HA1.out hlv HX1.out, acc_c3 HS.one HA1.out hlv HX1.out, led_c4 HS.two HA2.out, acc_c0 HS.two HA2.out hlu HU1.out, acc_c1 HS.two HA2.out hlu HU1.out, acc_c2 HS.two HA2.out hlu HU1.out, acc_c3 HS.two HA2.out hlu HU1.out, HS⟩) ?_
                    clear hK K
                    try simp only [Act.put, List.setIfInBounds_toArray, List.set_cons_zero, List.set_cons_succ]
                    generalize (((wa.setCell ⟨g9, 0, none⟩ (.int .i64 x0)).setCell ⟨g9, 1, none⟩ (.slice ca x1.length cc)).setCell ⟨g9, 2, none⟩ (.bool x2)).setCell ⟨g9, 3, none⟩ (.int .i64 x3) = wb at *
                    have f0 : wb.cell? ⟨g10, 0, none⟩ = some (.int .i64 0) := G10.cell 0
                    have r0 : wb.frozen? ⟨g10, 0, none⟩ = false := G10.frozen 0
                    have f1 : wb.cell? ⟨g10, 1, none⟩ = some (.slice none 0 0) := G10.cell 1
                    have r1 : wb.frozen? ⟨g10, 1, none⟩ = false := G10.frozen 1
                    have f2 : wb.cell? ⟨g10, 2, none⟩ = some (.bool false) := G10.cell 2
                    have r2 : wb.frozen? ⟨g10, 2, none⟩ = false := G10.frozen 2
                    have f3 : wb.cell? ⟨g10, 3, none⟩ = some (.int .i64 0) := G10.cell 3
                    have r3 : wb.frozen? ⟨g10, 3, none⟩ = false := G10.frozen 3
                    refine stage_only (i := 13) rfl (by kernel_rfl) ?_ (fun K hK => ?_)
                    focus (go_simp; done)
                    go_simp
                    clear f0 r0 f1 r1 f2 r2 f3 r3
                    replace LB := fill4_low LB hg10 (.int .i64 y0) (.slice cb y1.length cd) (.bool y2) (.int .i64 y3)
                    replace G9 := fill4_far G9 hgne.symm (.int .i64 y0) (.slice cb y1.length cd) (.bool y2) (.int .i64 y3)
                    replace G10 := fill4_box G10 (.int .i64 y0) (.slice cb y1.length cd) (.bool y2) (.int .i64 y3)
                    replace HS := XH.out.keep LB
                    refine hK.out _ _ (fun h => absurd h (by decide)) ?_
                    clear hK K
                    try simp only [Act.put, List.setIfInBounds_toArray, List.set_cons_zero, List.set_cons_succ]
                    generalize (((wb.setCell ⟨g10, 0, none⟩ (.int .i64 y0)).setCell ⟨g10, 1, none⟩ (.slice cb y1.length cd)).setCell ⟨g10, 2, none⟩ (.bool y2)).setCell ⟨g10, 3, none⟩ (.int .i64 y3) = wc at *
                    refine stage_end (by kernel_rfl) ?_
                    have c0 : wc.cell? ⟨g9, 0, none⟩ = some (.int .i64 x0) := G9.cell 0
                    have c1 : wc.cell? ⟨g9, 1, none⟩ = some (.slice ca x1.length cc) := G9.cell 1
                    have c2 : wc.cell? ⟨g9, 2, none⟩ = some (.bool x2) := G9.cell 2
                    have c3 : wc.cell? ⟨g9, 3, none⟩ = some (.int .i64 x3) := G9.cell 3
                    have d0 : wc.cell? ⟨g10, 0, none⟩ = some (.int .i64 y0) := G10.cell 0
                    have d1 : wc.cell? ⟨g10, 1, none⟩ = some (.slice cb y1.length cd) := G10.cell 1
                    have d2 : wc.cell? ⟨g10, 2, none⟩ = some (.bool y2) := G10.cell 2
                    have d3 : wc.cell? ⟨g10, 3, none⟩ = some (.int .i64 y3) := G10.cell 3
                    have HCAc := Lib.hid (HCA.out.keep LB)
                    have HCBc := Lib.hid (HCB.out.keep LB)
                    have XC := Lib.hid HS
                    clear G9 G10 HS LB HCA HCB G9h G10h hg9 hg10 hgne
                    by_cases h0 : x0 = y0
                    rotate_left
                    · have hb : (x0 != y0) = true := by simpa using h0
                      have HN : l.accts ≠ m.accts := fun h => h0 (by have := HXK.out h; simp only [Acc.mk.injEq] at this; exact this.1)
                      have HX : Hid (b = false) := by unfold Hid; rw [HE.out, decide_eq_false HN]; simp
                      clear h0 HN HE HM
                      go_wp2_with fail
                      go_ret
                      exact ⟨ret_bool HX.out.symm, XC.out.one.low⟩
                    subst h0
                    by_cases h2 : x2 = y2
                    rotate_left
                    · have hb : (x2 != y2) = true := by simpa using h2
                      have HN : l.accts ≠ m.accts := fun h => h2 (by have := HXK.out h; simp only [Acc.mk.injEq] at this; exact this.2.2.1)
                      have HX : Hid (b = false) := by unfold Hid; rw [HE.out, decide_eq_false HN]; simp
                      cases x2 <;> cases y2 <;> first
                        | exact absurd rfl h2
                        | (clear hb h2 HN HE HM; go_wp2_with fail; go_ret; exact ⟨ret_bool HX.out.symm, XC.out.one.low⟩)
                    subst h2
                    by_cases h3 : x3 = y3
                    rotate_left
                    · have hb : (x3 != y3) = true := by simpa using h3
                      have HN : l.accts ≠ m.accts := fun h => h3 (by have := HXK.out h; simp only [Acc.mk.injEq] at this; exact this.2.2.2)
                      have HX : Hid (b = false) := by unfold Hid; rw [HE.out, decide_eq_false HN]; simp
                      clear h3 HN HE HM
                      go_wp2_with fail
                      go_ret
                      exact ⟨ret_bool HX.out.symm, XC.out.one.low⟩
                    subst h3
                    have CI := Lib.hid (rsame_int ca cb cc cd x1 y1 wc bx by_ HCAc.out HCBc.out)
                    by_cases h1 : x1 = y1
                    · have HI : Hid (l.accts.take (k + 1) = m.accts.take (k + 1)) := HM.out.2 ⟨H.out, by rw [h1]⟩
                      rw [decide_eq_true h1] at CI
                      clear HCAc HCBc HM H HXK h1
                      go_wp2_with (go_at_call 23; refine CI.out.mono ?_; rintro e w5 ⟨rfl, n5, rfl⟩)
                      go_roundw
                      case rel => exact ⟨k + 1, by omega, by go_num, XC.out.drewN n5, HI⟩
                      case measure => simp [intOf]; omega
                    · have HN : l.accts ≠ m.accts := fun h => h1 (by have := HXK.out h; simp only [Acc.mk.injEq] at this; exact this.2.1)
                      have HX : Hid (b = false) := by unfold Hid; rw [HE.out, decide_eq_false HN]; simp
                      rw [decide_eq_false h1] at CI
                      clear HCAc HCBc HM H HXK h1 HN HE
                      go_wp2_with (go_at_call 23; refine CI.out.mono ?_; rintro e w5 ⟨rfl, n5, rfl⟩)
                      go_ret
                      exact ⟨ret_bool HX.out.symm, below_drewN XC.out.one.low n5⟩
                  · go_simp
                    have HS := XH.out.keep (LB.alloc (Nat.le_refl _) (.cells #[.int .i64 0, .slice none 0 0, .bool false, .int .i64 0] 46))
                    refine hK.out _ _ (fun _ => ⟨led_c4 HS.one HA1.out, acc_c0 HS.one HA1.out hlv HX1.out, acc_c1 HS.one HA1.out hlv HX1.out, acc_c2 HS.one HA1.out hlv HX1.out, acc_c3 HS.one HA1.out hlv HX1.out, led_c4 HS.two HA2.out, acc_c0 HS.two HA2.out hlu HU1.out, acc_c1 HS.two HA2.out hlu HU1.out, acc_c2 HS.two HA2.out hlu HU1.out, acc_c3 HS.two HA2.out hlu HU1.out, HS⟩) ?_
                    clear hK K HS
                    try simp only [Act.put, List.setIfInBounds_toArray, List.set_cons_zero, List.set_cons_succ]
                    refine stage_only (i := 10) rfl (by kernel_rfl) ?_ (fun K hK => ?_)
                    focus (go_simp; done)
                    go_simp
                    have LB2 := (LB.alloc (Nat.le_refl _) (.cells #[.int .i64 0, .slice none 0 0, .bool false, .int .i64 0] 46)).alloc (by simp) (.cells #[.int .i64 0, .slice none 0 0, .bool false, .int .i64 0] 46)
                    have HS := XH.out.keep LB2
                    refine hK.out _ _ (fun _ => ⟨led_c4 HS.one HA1.out, acc_c0 HS.one HA1.out hlv HX1.out, acc_c1 HS.one HA1.out hlv HX1.out, acc_c2 HS.one HA1.out hlv HX1.out, acc_c3 HS.one HA1.out hlv HX1.out, led_c4 HS.two HA2.out, acc_c0 HS.two HA2.out hlu HU1.out, acc_c1 HS.two HA2.out hlu HU1.out, acc_c2 HS.two HA2.out hlu HU1.out, acc_c3 HS.two HA2.out hlu HU1.out, HS⟩) ?_
                    clear hK K HS LB
                    try simp only [Act.put, List.setIfInBounds_toArray, List.set_cons_zero, List.set_cons_succ]
                    have Ga : Box ((wr.drew.alloc (.cells #[.int .i64 0, .slice none 0 0, .bool false, .int .i64 0] 46)).alloc (.cells #[.int .i64 0, .slice none 0 0, .bool false, .int .i64 0] 46)) wr.heap.size 46 #[.int .i64 0, .slice none 0 0, .bool false, .int .i64 0] := (Box.new wr.drew 46 #[.int .i64 0, .slice none 0 0, .bool false, .int .i64 0]).alloc (.cells #[.int .i64 0, .slice none 0 0, .bool false, .int .i64 0] 46)
                    have Gb : Box ((wr.drew.alloc (.cells #[.int .i64 0, .slice none 0 0, .bool false, .int .i64 0] 46)).alloc (.cells #[.int .i64 0, .slice none 0 0, .bool false, .int .i64 0] 46)) (wr.heap.size + 1) 46 #[.int .i64 0, .slice none 0 0, .bool false, .int .i64 0] := by
                      have := Box.new (wr.drew.alloc (.cells #[.int .i64 0, .slice none 0 0, .bool false, .int .i64 0] 46)) 46 #[.int .i64 0, .slice none 0 0, .bool false, .int .i64 0]
                      rw [World.size_alloc] at this
                      exact this
                    have LB := LB2
                    clear LB2
                    change Stage _ _ _ _ _ _ _ _ ((wr.drew.alloc (.cells #[.int .i64 0, .slice none 0 0, .bool false, .int .i64 0] 46)).alloc (.cells #[.int .i64 0, .slice none 0 0, .bool false, .int .i64 0] 46))
                    generalize (wr.drew.alloc (.cells #[.int .i64 0, .slice none 0 0, .bool false, .int .i64 0] 46)).alloc (.cells #[.int .i64 0, .slice none 0 0, .bool false, .int .i64 0] 46) = wa at *
                    obtain ⟨g9, e9⟩ : ∃ g, g = wr.heap.size + 1 := ⟨_, rfl⟩
                    obtain ⟨g10, e10⟩ : ∃ g, g = wr.heap.size := ⟨_, rfl⟩
                    have hg9 : wr.heap.size ≤ g9 := by omega
                    have hg10 : wr.heap.size ≤ g10 := by omega
                    have hgne : g10 ≠ g9 := by omega
                    have G9h : Hid (Box wa g9 46 #[.int .i64 0, .slice none 0 0, .bool false, .int .i64 0]) := by rw [e9]; exact Gb
                    have G10h : Hid (Box wa g10 46 #[.int .i64 0, .slice none 0 0, .bool false, .int .i64 0]) := by rw [e10]; exact Ga
                    try simp only [drew_heap]
                    simp only [← e9]
                    simp only [← e10]
                    clear Ga Gb e9 e10
                    have G9 := G9h.out
                    have G10 := G10h.out
                    have HS := XH.out.keep LB
                    have f0 : wa.cell? ⟨g9, 0, none⟩ = some (.int .i64 0) := G9.cell 0
                    have r0 : wa.frozen? ⟨g9, 0, none⟩ = false := G9.frozen 0
                    have f1 : wa.cell? ⟨g9, 1, none⟩ = some (.slice none 0 0) := G9.cell 1
                    have r1 : wa.frozen? ⟨g9, 1, none⟩ = false := G9.frozen 1
                    have f2 : wa.cell? ⟨g9, 2, none⟩ = some (.bool false) := G9.cell 2
                    have r2 : wa.frozen? ⟨g9, 2, none⟩ = false := G9.frozen 2
                    have f3 : wa.cell? ⟨g9, 3, none⟩ = some (.int .i64 0) := G9.cell 3
                    have r3 : wa.frozen? ⟨g9, 3, none⟩ = false := G9.frozen 3
                    refine stage_only (i := 12) rfl (by kernel_rfl) ?_ (fun K hK => ?_)
                    focus (go_simp; done)
                    go_simp
                    clear f0 r0 f1 r1 f2 r2 f3 r3
                    replace LB := fill4_low LB hg9 (.int .i64 x0) (.slice ca x1.length cc) (.bool x2) (.int .i64 x3)
                    replace G10 := fill4_far G10 hgne (.int .i64 x0) (.slice ca x1.length cc) (.bool x2) (.int .i64 x3)
                    replace G9 := fill4_box G9 (.int .i64 x0) (.slice ca x1.length cc) (.bool x2) (.int .i64 x3)
                    replace HS := XH.out.keep LB
                    refine hK.out _ _ (fun _ => ⟨led_c4 HS.one HA1.out, acc_c0 HS.one HA1.out hlv HX1.out, acc_c1 HS.one HA1.out hlv HX1.out, acc_c2 HS.one HA1.out hlv HX1.out, acc_c3 HS.one HA1.out hlv HX1.out, led_c4 HS.two HA2.out, acc_c0 HS.two HA2.out hlu HU1.out, acc_c1 HS.two HA2.out hlu HU1.out, acc_c2 HS.two HA2.out hlu HU1.out, acc_c3 HS.two HA2.out hlu HU1.out, HS⟩) ?_
                    clear hK K
                    try simp only [Act.put, List.setIfInBounds_toArray, List.set_cons_zero, List.set_cons_succ]
                    generalize (((wa.setCell ⟨g9, 0, none⟩ (.int .i64 x0)).setCell ⟨g9, 1, none⟩ (.slice ca x1.length cc)).setCell ⟨g9, 2, none⟩ (.bool x2)).setCell ⟨g9, 3, none⟩ (.int .i64 x3) = wb at *
                    have f0 : wb.cell? ⟨g10, 0, none⟩ = some (.int .i64 0) := G10.cell 0
                    have r0 : wb.frozen? ⟨g10, 0, none⟩ = false := G10.frozen 0
                    have f1 : wb.cell? ⟨g10, 1, none⟩ = some (.slice none 0 0) := G10.cell 1
                    have r1 : wb.frozen? ⟨g10, 1, none⟩ = false := G10.frozen 1
                    have f2 : wb.cell? ⟨g10, 2, none⟩ = some (.bool false) := G10.cell 2
                    have r2 : wb.frozen? ⟨g10, 2, none⟩ = false := G10.frozen 2
                    have f3 : wb.cell? ⟨g10, 3, none⟩ = some (.int .i64 0) := G10.cell 3
                    have r3 : wb.frozen? ⟨g10, 3, none⟩ = false := G10.frozen 3
                    refine stage_only (i := 13) rfl (by kernel_rfl) ?_ (fun K hK => ?_)
                    focus (go_simp; done)
                    go_simp
                    clear f0 r0 f1 r1 f2 r2 f3 r3
                    replace LB := fill4_low LB hg10 (.int .i64 y0) (.slice cb y1.length cd) (.bool y2) (.int .i64 y3)
                    replace G9 := fill4_far G9 hgne.symm (.int .i64 y0) (.slice cb y1.length cd) (.bool y2) (.int .i64 y3)
                    replace G10 := fill4_box G10 (.int .i64 y0) (.slice cb y1.length cd) (.bool y2) (.int .i64 y3)
                    replace HS := XH.out.keep LB
                    refine hK.out _ _ (fun h => absurd h (by decide)) ?_
                    clear hK K
                    try simp only [Act.put, List.setIfInBounds_toArray, List.set_cons_zero, List.set_cons_succ]
                    generalize (((wb.setCell ⟨g10, 0, none⟩ (.int .i64 y0)).setCell ⟨g10, 1, none⟩ (.slice cb y1.length cd)).setCell ⟨g10, 2, none⟩ (.bool y2)).setCell ⟨g10, 3, none⟩ (.int .i64 y3) = wc at *
                    refine stage_end (by kernel_rfl) ?_
                    have c0 : wc.cell? ⟨g9, 0, none⟩ = some (.int .i64 x0) := G9.cell 0
                    have c1 : wc.cell? ⟨g9, 1, none⟩ = some (.slice ca x1.length cc) := G9.cell 1
                    have c2 : wc.cell? ⟨g9, 2, none⟩ = some (.bool x2) := G9.cell 2
                    have c3 : wc.cell? ⟨g9, 3, none⟩ = some (.int .i64 x3) := G9.cell 3
                    have d0 : wc.cell? ⟨g10, 0, none⟩ = some (.int .i64 y0) := G10.cell 0
                    have d1 : wc.cell? ⟨g10, 1, none⟩ = some (.slice cb y1.length cd) := G10.cell 1
                    have d2 : wc.cell? ⟨g10, 2, none⟩ = some (.bool y2) := G10.cell 2
                    have d3 : wc.cell? ⟨g10, 3, none⟩ = some (.int .i64 y3) := G10.cell 3
                    have HCAc := Lib.hid (HCA.out.keep LB)
                    have HCBc := Lib.hid (HCB.out.keep LB)
                    have XC := Lib.hid HS
                    clear G9 G10 HS LB HCA HCB G9h G10h hg9 hg10 hgne
                    by_cases h0 : x0 = y0
                    rotate_left
                    · have hb : (x0 != y0) = true := by simpa using h0
                      have HN : l.accts ≠ m.accts := fun h => h0 (by have := HXK.out h; simp only [Acc.mk.injEq] at this; exact this.1)
                      have HX : Hid (b = false) := by unfold Hid; rw [HE.out, decide_eq_false HN]; simp
                      clear h0 HN HE HM
                      go_wp2_with fail
                      go_ret
                      exact ⟨ret_bool HX.out.symm, XC.out.one.low⟩
                    subst h0
                    by_cases h2 : x2 = y2
                    rotate_left
                    · have hb : (x2 != y2) = true := by simpa using h2
                      have HN : l.accts ≠ m.accts := fun h => h2 (by have := HXK.out h; simp only [Acc.mk.injEq] at this; exact this.2.2.1)
                      have HX : Hid (b = false) := by unfold Hid; rw [HE.out, decide_eq_false HN]; simp
                      cases x2 <;> cases y2 <;> first
                        | exact absurd rfl h2
                        | (clear hb h2 HN HE HM; go_wp2_with fail; go_ret; exact ⟨ret_bool HX.out.symm, XC.out.one.low⟩)
                    subst h2
                    by_cases h3 : x3 = y3
                    rotate_left
                    · have hb : (x3 != y3) = true := by simpa using h3
                      have HN : l.accts ≠ m.accts := fun h => h3 (by have := HXK.out h; simp only [Acc.mk.injEq] at this; exact this.2.2.2)
                      have HX : Hid (b = false) := by unfold Hid; rw [HE.out, decide_eq_false HN]; simp
                      clear h3 HN HE HM
                      go_wp2_with fail
                      go_ret
                      exact ⟨ret_bool HX.out.symm, XC.out.one.low⟩
                    subst h3
                    have CI := Lib.hid (rsame_int ca cb cc cd x1 y1 wc bx by_ HCAc.out HCBc.out)
                    by_cases h1 : x1 = y1
                    · have HI : Hid (l.accts.take (k + 1) = m.accts.take (k + 1)) := HM.out.2 ⟨H.out, by rw [h1]⟩
                      rw [decide_eq_true h1] at CI
                      clear HCAc HCBc HM H HXK h1
                      go_wp2_with (go_at_call 23; refine CI.out.mono ?_; rintro e w5 ⟨rfl, n5, rfl⟩)
                      go_roundw
                      case rel => exact ⟨k + 1, by omega, by go_num, XC.out.drewN n5, HI⟩
                      case measure => simp [intOf]; omega
                    · have HN : l.accts ≠ m.accts := fun h => h1 (by have := HXK.out h; simp only [Acc.mk.injEq] at this; exact this.2.1)
                      have HX : Hid (b = false) := by unfold Hid; rw [HE.out, decide_eq_false HN]; simp
                      rw [decide_eq_false h1] at CI
                      clear HCAc HCBc HM H HXK h1 HN HE
                      go_wp2_with (go_at_call 23; refine CI.out.mono ?_; rintro e w5 ⟨rfl, n5, rfl⟩)
                      go_ret
                      exact ⟨ret_bool HX.out.symm, below_drewN XC.out.one.low n5⟩
                · have hkk : k = l.accts.length := by omega
                  subst hkk
                  have HI4 : Hid (decide (l.accts = m.accts) = true) := by
                    have := H.out
                    rw [List.take_length, HL4.out, List.take_length] at this
                    exact decide_eq_true this
                  clear H
                  have x5 := X.one.c5
                  have y5 := X.two.c5
                  have XH4 := Lib.hid X
                  clear X
                  cases hq5 : decide (l.poss = m.poss) with
                  | false =>
                    rw [hq5] at K5
                    have HX : Hid (b = false) := by unfold Hid; rw [HE.out, hq5]; simp
                    clear hq5 HE
                    go_wp2_with (first | (go_at_call 24; refine (K5.out _ XH4.out).mono ?_; rintro e w5 ⟨rfl, hn⟩; have X5 := Lib.hid (XH4.out.keep (bel_of hn)); clear hn; have x6 := X5.out.one.c6; have y6 := X5.out.two.c6) | fail)
                    go_ret
                    exact ⟨ret_bool HX.out.symm, X5.out.one.low⟩
                  | true =>
                  rw [hq5] at K5
                  have HD5 := Lib.hid hq5
                  clear hq5
                  cases hq6 : decide (l.orders = m.orders) with
                  | false =>
                    rw [hq6] at K6
                    have HX : Hid (b = false) := by unfold Hid; rw [HE.out, hq6]; simp
                    clear hq6 HE
                    go_wp2_with (first | (go_at_call 24; refine (K5.out _ XH4.out).mono ?_; rintro e w5 ⟨rfl, hn⟩; have X5 := Lib.hid (XH4.out.keep (bel_of hn)); clear hn; have x6 := X5.out.one.c6; have y6 := X5.out.two.c6) | (go_at_call 25; refine (K6.out _ X5.out).mono ?_; rintro e w6 ⟨rfl, hn⟩; have X6 := Lib.hid (X5.out.keep (bel_of hn)); clear hn; have x7 := X6.out.one.c7; have y7 := X6.out.two.c7) | fail)
                    go_ret
                    exact ⟨ret_bool HX.out.symm, X6.out.one.low⟩
                  | true =>
                  rw [hq6] at K6
                  have HD6 := Lib.hid hq6
                  clear hq6
                  cases hq7 : decide (l.avail = m.avail) with
                  | false =>
                    rw [hq7] at K7
                    have HX : Hid (b = false) := by unfold Hid; rw [HE.out, hq7]; simp
                    clear hq7 HE
                    go_wp2_with (first | (go_at_call 24; refine (K5.out _ XH4.out).mono ?_; rintro e w5 ⟨rfl, hn⟩; have X5 := Lib.hid (XH4.out.keep (bel_of hn)); clear hn; have x6 := X5.out.one.c6; have y6 := X5.out.two.c6) | (go_at_call 25; refine (K6.out _ X5.out).mono ?_; rintro e w6 ⟨rfl, hn⟩; have X6 := Lib.hid (X5.out.keep (bel_of hn)); clear hn; have x7 := X6.out.one.c7; have y7 := X6.out.two.c7) | (go_at_call 23; refine (K7.out _ X6.out).mono ?_; rintro e w7 ⟨rfl, hn⟩; have X7 := Lib.hid (X6.out.keep (bel_of hn)); clear hn; have x8 := X7.out.one.c8; have y8 := X7.out.two.c8) | fail)
                    go_ret
                    exact ⟨ret_bool HX.out.symm, X7.out.one.low⟩
                  | true =>
                  rw [hq7] at K7
                  have HD7 := Lib.hid hq7
                  clear hq7
                  cases hq8 : decide (l.locs = m.locs) with
                  | false =>
                    rw [hq8] at K8
                    have HX : Hid (b = false) := by unfold Hid; rw [HE.out, hq8]; simp
                    clear hq8 HE
                    go_wp2_with (first | (go_at_call 24; refine (K5.out _ XH4.out).mono ?_; rintro e w5 ⟨rfl, hn⟩; have X5 := Lib.hid (XH4.out.keep (bel_of hn)); clear hn; have x6 := X5.out.one.c6; have y6 := X5.out.two.c6) | (go_at_call 25; refine (K6.out _ X5.out).mono ?_; rintro e w6 ⟨rfl, hn⟩; have X6 := Lib.hid (X5.out.keep (bel_of hn)); clear hn; have x7 := X6.out.one.c7; have y7 := X6.out.two.c7) | (go_at_call 23; refine (K7.out _ X6.out).mono ?_; rintro e w7 ⟨rfl, hn⟩; have X7 := Lib.hid (X6.out.keep (bel_of hn)); clear hn; have x8 := X7.out.one.c8; have y8 := X7.out.two.c8) | (go_at_call 26; refine (K8.out _ X7.out).mono ?_; rintro e w8 ⟨rfl, hn⟩; have X8 := Lib.hid (X7.out.keep (bel_of hn)); clear hn) | fail)
                    go_ret
                    exact ⟨ret_bool HX.out.symm, X8.out.one.low⟩
                  | true =>
                  rw [hq8] at K8
                  have HD8 := Lib.hid hq8
                  clear hq8
                  have HX : Hid (b = true) := by unfold Hid; rw [HE.out, HD.out, HI1.out, HI2.out, HI3.out, HI4.out, HD5.out, HD6.out, HD7.out, HD8.out]; rfl
                  clear HE
                  go_wp2_with (first | (go_at_call 24; refine (K5.out _ XH4.out).mono ?_; rintro e w5 ⟨rfl, hn⟩; have X5 := Lib.hid (XH4.out.keep (bel_of hn)); clear hn; have x6 := X5.out.one.c6; have y6 := X5.out.two.c6) | (go_at_call 25; refine (K6.out _ X5.out).mono ?_; rintro e w6 ⟨rfl, hn⟩; have X6 := Lib.hid (X5.out.keep (bel_of hn)); clear hn; have x7 := X6.out.one.c7; have y7 := X6.out.two.c7) | (go_at_call 23; refine (K7.out _ X6.out).mono ?_; rintro e w7 ⟨rfl, hn⟩; have X7 := Lib.hid (X6.out.keep (bel_of hn)); clear hn; have x8 := X7.out.one.c8; have y8 := X7.out.two.c8) | (go_at_call 26; refine (K8.out _ X7.out).mono ?_; rintro e w8 ⟨rfl, hn⟩; have X8 := Lib.hid (X7.out.keep (bel_of hn)); clear hn) | fail)
                  go_ret
                  exact ⟨ret_bool HX.out.symm, X8.out.one.low⟩
end Go.Proofs.YtocjfjikkdpfdaaGreatDoor.LedW
namespace Go.Proofs.YtocjfjikkdpfdaaGreatDoor.LedW
open Go.RowKit Go.Proofs.YtocjfjikkdpfdaaGreatDoor.Bas Go.Proofs.YtocjfjikkdpfdaaGreatDoor.LedM


theorem LedOwn.lay_curs {base : Nat} {W : World} {s : Lists} {l : Led} {us : List (Value × Acc)} (h : LedOwn base W s l us) {p : Option Addr} {q : Nat} {xs : List (Int × Int)} (hr : W.ownsRow base 55 2 (.slice p xs.length q) xs.length (xs.flatMap curC)) :
    LedOwn base W { s with a1 := p, c1 := q } { l with curs := xs } us := ⟨hr, h.unders, h.instrs, h.accts, h.poss, h.orders, h.avail, h.locs, h.each, h.cash, h.dist, h.free⟩

theorem LedOwn.lay_unders {base : Nat} {W : World} {s : Lists} {l : Led} {us : List (Value × Acc)} (h : LedOwn base W s l us) {p : Option Addr} {q : Nat} {xs : List Und} (hr : W.ownsRow base 57 4 (.slice p xs.length q) xs.length (xs.flatMap undC)) :
    LedOwn base W { s with a2 := p, c2 := q } { l with unders := xs } us := ⟨h.curs, hr, h.instrs, h.accts, h.poss, h.orders, h.avail, h.locs, h.each, h.cash, h.dist, h.free⟩

theorem LedOwn.lay_instrs {base : Nat} {W : World} {s : Lists} {l : Led} {us : List (Value × Acc)} (h : LedOwn base W s l us) {p : Option Addr} {q : Nat} {xs : List Ins} (hr : W.ownsRow base 60 7 (.slice p xs.length q) xs.length (xs.flatMap insC)) :
    LedOwn base W { s with a3 := p, c3 := q } { l with instrs := xs } us := ⟨h.curs, h.unders, hr, h.accts, h.poss, h.orders, h.avail, h.locs, h.each, h.cash, h.dist, h.free⟩

theorem LedOwn.lay_poss {base : Nat} {W : World} {s : Lists} {l : Led} {us : List (Value × Acc)} (h : LedOwn base W s l us) {p : Option Addr} {q : Nat} {xs : List Tri} (hr : W.ownsRow base 63 3 (.slice p xs.length q) xs.length (xs.flatMap triC)) :
    LedOwn base W { s with a5 := p, c5 := q } { l with poss := xs } us := ⟨h.curs, h.unders, h.instrs, h.accts, hr, h.orders, h.avail, h.locs, h.each, h.cash, h.dist, h.free⟩

theorem LedOwn.lay_orders {base : Nat} {W : World} {s : Lists} {l : Led} {us : List (Value × Acc)} (h : LedOwn base W s l us) {p : Option Addr} {q : Nat} {xs : List Ord} (hr : W.ownsRow base 65 5 (.slice p xs.length q) xs.length (xs.flatMap ordC)) :
    LedOwn base W { s with a6 := p, c6 := q } { l with orders := xs } us := ⟨h.curs, h.unders, h.instrs, h.accts, h.poss, hr, h.avail, h.locs, h.each, h.cash, h.dist, h.free⟩

theorem LedOwn.lay_avail {base : Nat} {W : World} {s : Lists} {l : Led} {us : List (Value × Acc)} (h : LedOwn base W s l us) {p : Option Addr} {q : Nat} {xs : List Int} (hr : W.ownsRow base 3 1 (.slice p xs.length q) xs.length (i64s xs)) (hf : ∀ x ∈ us, Apart (.slice p xs.length q) x.1) :
    LedOwn base W { s with a7 := p, c7 := q } { l with avail := xs } us := ⟨h.curs, h.unders, h.instrs, h.accts, h.poss, h.orders, hr, h.locs, h.each, h.cash, h.dist, hf⟩

theorem LedOwn.lay_locs {base : Nat} {W : World} {s : Lists} {l : Led} {us : List (Value × Acc)} (h : LedOwn base W s l us) {p : Option Addr} {q : Nat} {xs : List Tri} (hr : W.ownsRow base 66 3 (.slice p xs.length q) xs.length (xs.flatMap triC)) :
    LedOwn base W { s with a8 := p, c8 := q } { l with locs := xs } us := ⟨h.curs, h.unders, h.instrs, h.accts, h.poss, h.orders, h.avail, hr, h.each, h.cash, h.dist, h.free⟩

theorem box_drew {W : World} {g : Nat} {t : TypeId} {cs : Array Value} (h : Box W g t cs) : Box W.drew g t cs := h
/-- the document's Copy, as far as it has come -/
structure RC (w W : World) (s : Lists) (l : Led) (cs : Array Value) (so : Lists) (lo : Led) (us : List (Value × Acc)) : Prop where
  low : Below w.heap.size w W
  b1 : Box W w.heap.size 31 #[.int .i64 l.day, .slice s.a1 l.curs.length s.c1, .slice s.a2 l.unders.length s.c2, .slice s.a3 l.instrs.length s.c3, .slice s.a4 l.accts.length s.c4, .slice s.a5 l.poss.length s.c5, .slice s.a6 l.orders.length s.c6, .slice s.a7 l.avail.length s.c7, .slice s.a8 l.locs.length s.c8]
  b2 : Box W (w.heap.size + 1) 31 zeroL
  b3 : Box W (w.heap.size + 2) 31 cs
  own : LedOwn w.heap.size W so lo us
section
variable {w A B : World} {s : Lists} {l : Led} {vs : List (Value × Acc)} {cs : Array Value} {so : Lists} {lo : Led} {us : List (Value × Acc)}
theorem RC.keep (h : RC w A s l cs so lo us) (b : Below A.heap.size A B) : RC w B s l cs so lo us := ⟨h.low.trans (b.mono h.low.size), h.b1.keep b, h.b2.keep b, h.b3.keep b, h.own.below b⟩
theorem led_drew {W : World} (h : LedAt W s l vs) : LedAt W.drew s l vs := ⟨h.curs, h.unders, h.instrs, h.accts, h.each, h.cash, h.poss, h.orders, h.avail, h.locs, h.caps⟩
theorem own_led_drew {base : Nat} {W : World} (h : LedOwn base W s l vs) : LedOwn base W.drew s l vs := ⟨h.curs, h.unders, h.instrs, h.accts, h.poss, h.orders, h.avail, h.locs, h.each, h.cash, h.dist, h.free⟩
theorem RC.drew (h : RC w A s l cs so lo us) : RC w A.drew s l cs so lo us := ⟨h.low.drew, h.b1, h.b2, h.b3, own_led_drew h.own⟩
/-- the boxes alone -/
structure RB (w W : World) (s : Lists) (l : Led) (cs : Array Value) : Prop where
  low : Below w.heap.size w W
  b1 : Box W w.heap.size 31 #[.int .i64 l.day, .slice s.a1 l.curs.length s.c1, .slice s.a2 l.unders.length s.c2, .slice s.a3 l.instrs.length s.c3, .slice s.a4 l.accts.length s.c4, .slice s.a5 l.poss.length s.c5, .slice s.a6 l.orders.length s.c6, .slice s.a7 l.avail.length s.c7, .slice s.a8 l.locs.length s.c8]
  b2 : Box W (w.heap.size + 1) 31 zeroL
  b3 : Box W (w.heap.size + 2) 31 cs
theorem RC.rb (h : RC w A s l cs so lo us) : RB w A s l cs := ⟨h.low, h.b1, h.b2, h.b3⟩
theorem RB.keep (h : RB w A s l cs) (b : Below A.heap.size A B) : RB w B s l cs := ⟨h.low.trans (b.mono h.low.size), h.b1.keep b, h.b2.keep b, h.b3.keep b⟩
theorem box_kept {W W' : World} {g : Nat} {t : TypeId} {cs : Array Value} (h : Box W g t cs) {b : Option Nat} (hg : W.grownBy W' b) (hne : b ≠ some g) : Box W' g t cs := (hg.block g h.lt (fun e => hne e.symm)).trans h
/-- a field of the copy's box is written; what it owns is told anew -/
theorem RC.put (h : RC w A s l cs so lo us) (j : Nat) (u : Value) {so' : Lists} {lo' : Led} {us' : List (Value × Acc)} (h' : LedOwn w.heap.size A so' lo' us') : RC w (A.setCell ⟨w.heap.size + 2, j, none⟩ u) s l (cs.setIfInBounds j u) so' lo' us' :=
  ⟨h.low.setCell (p := ⟨w.heap.size + 2, j, none⟩) (by simp) u, h.b1.far (p := ⟨w.heap.size + 2, j, none⟩) (by simp) u, h.b2.far (p := ⟨w.heap.size + 2, j, none⟩) (by simp) u, h.b3.set j u, h'.box h.b3 j u⟩
end

set_option maxHeartbeats 8000000 in
set_option maxRecDepth 100000 in
theorem rcopy_calls (s : Lists) (l : Led) (vs : List (Value × Acc)) (w : World) (hat : LedAt w s l vs) (hf : LedFit l) :
    Calls Tryz.prog 7 #[ledV s l] w fun e w' => ∃ s' us, e = .returned (ledV s' l) ∧ LedOwn w.heap.size w' s' l us ∧ Below w.heap.size w w' := by
  unfold ledV
  obtain ⟨n1, n2, n3, n4, n5, n6, n7, n8⟩ := hf.len
  have HFit := Lib.hid hf
  have HAt := Lib.hid hat
  have HLen := Lib.hid (LedAt.len hat)
  have X0 : RC w (((w.alloc (.cells #[.int .i64 l.day, .slice s.a1 l.curs.length s.c1, .slice s.a2 l.unders.length s.c2, .slice s.a3 l.instrs.length s.c3, .slice s.a4 l.accts.length s.c4, .slice s.a5 l.poss.length s.c5, .slice s.a6 l.orders.length s.c6, .slice s.a7 l.avail.length s.c7, .slice s.a8 l.locs.length s.c8] 31)).alloc (.cells zeroL 31)).alloc (.cells #[.int .i64 l.day, .slice none 0 0, .slice none 0 0, .slice none 0 0, .slice none 0 0, .slice none 0 0, .slice none 0 0, .slice none 0 0, .slice none 0 0] 31)) s l #[.int .i64 l.day, .slice none 0 0, .slice none 0 0, .slice none 0 0, .slice none 0 0, .slice none 0 0, .slice none 0 0, .slice none 0 0, .slice none 0 0] ⟨none, 0, none, 0, none, 0, none, 0, none, 0, none, 0, none, 0, none, 0⟩ ⟨l.day, [], [], [], [], [], [], [], []⟩ [] := by
    have a1 := Box.new w 31 #[.int .i64 l.day, .slice s.a1 l.curs.length s.c1, .slice s.a2 l.unders.length s.c2, .slice s.a3 l.instrs.length s.c3, .slice s.a4 l.accts.length s.c4, .slice s.a5 l.poss.length s.c5, .slice s.a6 l.orders.length s.c6, .slice s.a7 l.avail.length s.c7, .slice s.a8 l.locs.length s.c8]
    have a2 := Box.new (w.alloc (.cells #[.int .i64 l.day, .slice s.a1 l.curs.length s.c1, .slice s.a2 l.unders.length s.c2, .slice s.a3 l.instrs.length s.c3, .slice s.a4 l.accts.length s.c4, .slice s.a5 l.poss.length s.c5, .slice s.a6 l.orders.length s.c6, .slice s.a7 l.avail.length s.c7, .slice s.a8 l.locs.length s.c8] 31)) 31 zeroL
    have a3 := Box.new ((w.alloc (.cells #[.int .i64 l.day, .slice s.a1 l.curs.length s.c1, .slice s.a2 l.unders.length s.c2, .slice s.a3 l.instrs.length s.c3, .slice s.a4 l.accts.length s.c4, .slice s.a5 l.poss.length s.c5, .slice s.a6 l.orders.length s.c6, .slice s.a7 l.avail.length s.c7, .slice s.a8 l.locs.length s.c8] 31)).alloc (.cells zeroL 31)) 31 #[.int .i64 l.day, .slice none 0 0, .slice none 0 0, .slice none 0 0, .slice none 0 0, .slice none 0 0, .slice none 0 0, .slice none 0 0, .slice none 0 0]
    rw [World.size_alloc] at a2
    rw [World.size_alloc, World.size_alloc] at a3
    exact ⟨(((Below.refl w.heap.size w).alloc (Nat.le_refl _) _).alloc (by simp) _).alloc (by simp; omega) _, (a1.alloc _).alloc _, a2.alloc _, a3, World.ownsRow_nil _ _ _ _, World.ownsRow_nil _ _ _ _, World.ownsRow_nil _ _ _ _, World.ownsRow_nil _ _ _ _, World.ownsRow_nil _ _ _ _, World.ownsRow_nil _ _ _ _, World.ownsRow_nil _ _ _ _, World.ownsRow_nil _ _ _ _, rfl, by simp, by simp, by simp⟩
  clear hat hf
  go_enter Tryz.func7, Tryz.ntmps7
  go_upto_region 2 with fail
  change Code.wp _ _ _ _ (((w.alloc (.cells #[.int .i64 l.day, .slice s.a1 l.curs.length s.c1, .slice s.a2 l.unders.length s.c2, .slice s.a3 l.instrs.length s.c3, .slice s.a4 l.accts.length s.c4, .slice s.a5 l.poss.length s.c5, .slice s.a6 l.orders.length s.c6, .slice s.a7 l.avail.length s.c7, .slice s.a8 l.locs.length s.c8] 31)).alloc (.cells zeroL 31)).alloc (.cells #[.int .i64 l.day, .slice none 0 0, .slice none 0 0, .slice none 0 0, .slice none 0 0, .slice none 0 0, .slice none 0 0, .slice none 0 0, .slice none 0 0] 31))
  generalize ((w.alloc (.cells #[.int .i64 l.day, .slice s.a1 l.curs.length s.c1, .slice s.a2 l.unders.length s.c2, .slice s.a3 l.instrs.length s.c3, .slice s.a4 l.accts.length s.c4, .slice s.a5 l.poss.length s.c5, .slice s.a6 l.orders.length s.c6, .slice s.a7 l.avail.length s.c7, .slice s.a8 l.locs.length s.c8] 31)).alloc (.cells zeroL 31)).alloc (.cells #[.int .i64 l.day, .slice none 0 0, .slice none 0 0, .slice none 0 0, .slice none 0 0, .slice none 0 0, .slice none 0 0, .slice none 0 0, .slice none 0 0] 31) = w0 at *
  have e1 : (w0.alloc (.cells #[] 55)).cell? ⟨w.heap.size, 1, none⟩ = some (.slice s.a1 l.curs.length s.c1) := (X0.b1.alloc _).cell 1
  have X0H := Lib.hid X0
  have HA1 := Lib.hid (HAt.out.curs.keep (X0.low.alloc X0.low.size (.cells #[] 55)))
  clear X0
  go_upto_region 3 with (first | (at_builtin; refine wpList_append_at _ rfl (.tmp 9) (.tmp 11) elem_cur rfl w0.heap.size (.slice (some ⟨w0.heap.size, 0, none⟩) 0 0) 0 [] rfl (owns_empty w0 _ _ _ (Nat.le_refl _)) s.a1 l.curs.length s.c1 (l.curs.flatMap curC) rfl (flat_len len_cur l.curs) HA1.out (one_flat one_cur l.curs) (by unfold maxLen; omega) (by omega) (by simp) ?_; intro v2 w1 own1 bel1 _ _; simp only [Nat.zero_add, List.nil_append] at own1; obtain ⟨p1, q1, rfl, _⟩ := at_of_owns own1; have X1o := X0H.out.keep (((Below.refl _ _).alloc (Nat.le_refl _) _).trans bel1); have ck : w1.cell? ⟨w.heap.size + 2, 1, none⟩ = some (.slice none 0 0) := X1o.b3.cell 1; have fk := X1o.b3.frozen 1))
  have hown : LedOwn w.heap.size w1 ⟨p1, q1, none, 0, none, 0, none, 0, none, 0, none, 0, none, 0, none, 0⟩ ⟨l.day, l.curs, [], [], [], [], [], [], []⟩ [] := (X1o.own.lay_curs (own1.mono X0H.out.low.size))
  have X1 : RC w (w1.setCell ⟨w.heap.size + 2, 1, none⟩ (.slice p1 l.curs.length q1)) s l #[.int .i64 l.day, .slice p1 l.curs.length q1, .slice none 0 0, .slice none 0 0, .slice none 0 0, .slice none 0 0, .slice none 0 0, .slice none 0 0, .slice none 0 0] ⟨p1, q1, none, 0, none, 0, none, 0, none, 0, none, 0, none, 0, none, 0⟩ ⟨l.day, l.curs, [], [], [], [], [], [], []⟩ [] := X1o.put 1 (.slice p1 l.curs.length q1) hown
  clear e1 ck fk hown X1o own1 bel1 X0H HA1
  generalize w1.setCell ⟨w.heap.size + 2, 1, none⟩ (.slice p1 l.curs.length q1) = w1b at *
  have e1 : (w1b.alloc (.cells #[] 57)).cell? ⟨w.heap.size, 2, none⟩ = some (.slice s.a2 l.unders.length s.c2) := (X1.b1.alloc _).cell 2
  have X1H := Lib.hid X1
  have HA2 := Lib.hid (HAt.out.unders.keep (X1.low.alloc X1.low.size (.cells #[] 57)))
  clear X1
  go_upto_region 4 with (first | (at_builtin; refine wpList_append_at _ rfl (.tmp 14) (.tmp 16) elem_und rfl w1b.heap.size (.slice (some ⟨w1b.heap.size, 0, none⟩) 0 0) 0 [] rfl (owns_empty w1b _ _ _ (Nat.le_refl _)) s.a2 l.unders.length s.c2 (l.unders.flatMap undC) rfl (flat_len len_und l.unders) HA2.out (one_flat one_und l.unders) (by unfold maxLen; omega) (by omega) (by simp) ?_; intro v2 w2 own2 bel2 _ _; simp only [Nat.zero_add, List.nil_append] at own2; obtain ⟨p2, q2, rfl, _⟩ := at_of_owns own2; have X2o := X1H.out.keep (((Below.refl _ _).alloc (Nat.le_refl _) _).trans bel2); have ck : w2.cell? ⟨w.heap.size + 2, 2, none⟩ = some (.slice none 0 0) := X2o.b3.cell 2; have fk := X2o.b3.frozen 2))
  have hown : LedOwn w.heap.size w2 ⟨p1, q1, p2, q2, none, 0, none, 0, none, 0, none, 0, none, 0, none, 0⟩ ⟨l.day, l.curs, l.unders, [], [], [], [], [], []⟩ [] := (X2o.own.lay_unders (own2.mono X1H.out.low.size))
  have X2 : RC w (w2.setCell ⟨w.heap.size + 2, 2, none⟩ (.slice p2 l.unders.length q2)) s l #[.int .i64 l.day, .slice p1 l.curs.length q1, .slice p2 l.unders.length q2, .slice none 0 0, .slice none 0 0, .slice none 0 0, .slice none 0 0, .slice none 0 0, .slice none 0 0] ⟨p1, q1, p2, q2, none, 0, none, 0, none, 0, none, 0, none, 0, none, 0⟩ ⟨l.day, l.curs, l.unders, [], [], [], [], [], []⟩ [] := X2o.put 2 (.slice p2 l.unders.length q2) hown
  clear e1 ck fk hown X2o own2 bel2 X1H HA2
  generalize w2.setCell ⟨w.heap.size + 2, 2, none⟩ (.slice p2 l.unders.length q2) = w2b at *
  have e1 : (w2b.alloc (.cells #[] 60)).cell? ⟨w.heap.size, 3, none⟩ = some (.slice s.a3 l.instrs.length s.c3) := (X2.b1.alloc _).cell 3
  have X2H := Lib.hid X2
  have HA3 := Lib.hid (HAt.out.instrs.keep (X2.low.alloc X2.low.size (.cells #[] 60)))
  clear X2
  go_upto_region 5 with (first | (at_builtin; refine wpList_append_at _ rfl (.tmp 19) (.tmp 21) elem_ins rfl w2b.heap.size (.slice (some ⟨w2b.heap.size, 0, none⟩) 0 0) 0 [] rfl (owns_empty w2b _ _ _ (Nat.le_refl _)) s.a3 l.instrs.length s.c3 (l.instrs.flatMap insC) rfl (flat_len len_ins l.instrs) HA3.out (one_flat one_ins l.instrs) (by unfold maxLen; omega) (by omega) (by simp) ?_; intro v2 w3 own3 bel3 _ _; simp only [Nat.zero_add, List.nil_append] at own3; obtain ⟨p3, q3, rfl, _⟩ := at_of_owns own3; have X3o := X2H.out.keep (((Below.refl _ _).alloc (Nat.le_refl _) _).trans bel3); have ck : w3.cell? ⟨w.heap.size + 2, 3, none⟩ = some (.slice none 0 0) := X3o.b3.cell 3; have fk := X3o.b3.frozen 3))
  have hown : LedOwn w.heap.size w3 ⟨p1, q1, p2, q2, p3, q3, none, 0, none, 0, none, 0, none, 0, none, 0⟩ ⟨l.day, l.curs, l.unders, l.instrs, [], [], [], [], []⟩ [] := (X3o.own.lay_instrs (own3.mono X2H.out.low.size))
  have X3 : RC w (w3.setCell ⟨w.heap.size + 2, 3, none⟩ (.slice p3 l.instrs.length q3)) s l #[.int .i64 l.day, .slice p1 l.curs.length q1, .slice p2 l.unders.length q2, .slice p3 l.instrs.length q3, .slice none 0 0, .slice none 0 0, .slice none 0 0, .slice none 0 0, .slice none 0 0] ⟨p1, q1, p2, q2, p3, q3, none, 0, none, 0, none, 0, none, 0, none, 0⟩ ⟨l.day, l.curs, l.unders, l.instrs, [], [], [], [], []⟩ [] := X3o.put 3 (.slice p3 l.instrs.length q3) hown
  clear e1 ck fk hown X3o own3 bel3 X2H HA3
  generalize w3.setCell ⟨w.heap.size + 2, 3, none⟩ (.slice p3 l.instrs.length q3) = w3b at *
  have e4 : w3b.cell? ⟨w.heap.size, 4, none⟩ = some (.slice s.a4 l.accts.length s.c4) := X3.b1.cell 4
  have XH := Lib.hid X3
  clear X3
  go_wp2_with fail
  clear e4
  go_loopw [27] (fun i wr => ∃ (k : Nat) (p4 : Option Addr) (q4 : Nat) (us : List (Value × Acc)), k ≤ l.accts.length ∧ i = .int .i64 (k : Int) ∧ RC w wr s l #[.int .i64 l.day, .slice p1 l.curs.length q1, .slice p2 l.unders.length q2, .slice p3 l.instrs.length q3, .slice p4 k q4, .slice none 0 0, .slice none 0 0, .slice none 0 0, .slice none 0 0] ⟨p1, q1, p2, q2, p3, q3, p4, q4, none, 0, none, 0, none, 0, none, 0⟩ ⟨l.day, l.curs, l.unders, l.instrs, l.accts.take k, [], [], [], []⟩ us) (fun i _ => l.accts.length - (intOf i).toNat)
  case atStart => exact ⟨0, none, 0, [], by omega, rfl, by simpa using XH.out⟩
  case round =>
    clear XH
    obtain ⟨k, p4, q4, us, hk, rfl, X⟩ := hrel
    by_cases hlt : k < l.accts.length
    · have hlv : k < vs.length := by have := HLen.out; omega
      have hata := HAt.out.accts.keep X.low
      obtain ⟨b, off, ha, C1⟩ := rec_at len_acc (by decide) hata hlv
      have hcash := HAt.out.cash _ (List.getElem_mem hlv)
      have hfa := HFit.out.accts _ (List.getElem_mem hlt)
      have hke := LedAt.acc HAt.out hlv hlt
      have HTake := Lib.hid (List.take_succ_eq_append_getElem hlt)
      generalize l.accts[k] = a at *
      generalize vs[k] = x at *
      obtain ⟨xv, xa⟩ := x
      simp only at hke
      subst hke
      obtain ⟨x0, x1, x2, x3⟩ := xa
      obtain ⟨ca, cc, hxv, hcc, hcat⟩ := hcash
      simp only at hxv hcc hcat hfa
      subst hxv
      have c0 := C1 0 _ rfl
      have c1 := C1 1 _ rfl
      have c2 := C1 2 _ rfl
      have c3 := C1 3 _ rfl
      clear C1 hata
      simp only [← Nat.add_assoc, Nat.add_zero] at c0 c1 c2 c3
      have hcl : x1.length * 8 ≤ 140737488351232 := hfa.2.2.2
      rw [ha]
      have HCat := Lib.hid (fun W (h : Below w.heap.size w W) => hcat.keep h)
      have XH := Lib.hid X
      have hz := X.low.size
      clear hcat X hfa
      go_upto_region 8 with fail
      clear c0 c1 c2 c3
      have X1 := XH.out.keep ((Below.refl _ _).alloc (Nat.le_refl _) (.cells #[.int .i64 x0, .slice ca x1.length cc, .bool x2, .int .i64 x3] 46))
      have B5 := Box.new wr 46 #[.int .i64 x0, .slice ca x1.length cc, .bool x2, .int .i64 x3]
      have hw : w.heap.size + 2 < wr.heap.size := XH.out.b3.lt
      have HS1 := Lib.hid (And.intro X1 B5)
      have XR := Lib.hid XH.out.own.accts
      clear X1 B5 XH
      generalize wr.alloc (.cells #[.int .i64 x0, .slice ca x1.length cc, .bool x2, .int .i64 x3] 46) = wa at *
      obtain ⟨g5, hg5⟩ : ∃ g, g = wr.heap.size := ⟨_, rfl⟩
      have hne5 : (Value.slice p4 k q4).ownBlock ≠ some g5 := fun e => by
        have hlk : (l.accts.take k).length = k := by simp; omega
        have h1 := XR.out
        simp only [hlk] at h1
        have := (h1.lt g5 e).2
        omega
      clear XR
      rw [← hg5] at HS1 ⊢
      clear hg5
      refine stage_region 15 (fun W => W.cell? ⟨w.heap.size + 2, 4, none⟩ = some (.slice p4 k q4) ∧ W.cell? ⟨g5, 0, none⟩ = some (.int .i64 x0) ∧ W.cell? ⟨g5, 1, none⟩ = some (.slice ca x1.length cc) ∧ W.cell? ⟨g5, 2, none⟩ = some (.bool x2) ∧ W.cell? ⟨g5, 3, none⟩ = some (.int .i64 x3) ∧ (RB w W s l #[.int .i64 l.day, .slice p1 l.curs.length q1, .slice p2 l.unders.length q2, .slice p3 l.instrs.length q3, .slice p4 k q4, .slice none 0 0, .slice none 0 0, .slice none 0 0, .slice none 0 0] ∧ Box W g5 46 #[.int .i64 x0, .slice ca x1.length cc, .bool x2, .int .i64 x3])) (by kernel_rfl) ?_
      have HS := And.intro HS1.out.1.drew.rb (box_drew HS1.out.2)
      refine' stage_take (i := 0) _ rfl (by kernel_rfl) (by kernel_rfl) (by kernel_rfl) (by kernel_rfl) (fun _ _ _ h => h) ⟨HS.1.b3.cell 4, HS.2.cell 0, HS.2.cell 1, HS.2.cell 2, HS.2.cell 3, HS⟩ _ (fun W hW => _) _
      rotate_left
      focus (go_simp; done)
      focus (obtain ⟨k1, k2, k3, k4, k5, X9⟩ := hW; go_simp; first | done | (with_reducible rfl))
      simp only [Act.put, List.setIfInBounds_toArray, List.set_cons_zero, List.set_cons_succ]
      refine' stage_take (i := 1) _ rfl (by kernel_rfl) (by kernel_rfl) (by kernel_rfl) (by kernel_rfl) (fun _ _ _ h => h) ⟨HS.1.b3.cell 4, HS.2.cell 0, HS.2.cell 1, HS.2.cell 2, HS.2.cell 3, HS⟩ _ (fun W hW => _) _
      rotate_left
      focus (go_simp; done)
      focus (obtain ⟨k1, k2, k3, k4, k5, X9⟩ := hW; go_simp; first | done | (with_reducible rfl))
      simp only [Act.put, List.setIfInBounds_toArray, List.set_cons_zero, List.set_cons_succ]
      refine' stage_take (i := 2) _ rfl (by kernel_rfl) (by kernel_rfl) (by kernel_rfl) (by kernel_rfl) (fun _ _ _ h => h) ⟨HS.1.b3.cell 4, HS.2.cell 0, HS.2.cell 1, HS.2.cell 2, HS.2.cell 3, HS⟩ _ (fun W hW => _) _
      rotate_left
      focus (go_simp; done)
      focus (obtain ⟨k1, k2, k3, k4, k5, X9⟩ := hW; go_simp; first | done | (with_reducible rfl))
      simp only [Act.put, List.setIfInBounds_toArray, List.set_cons_zero, List.set_cons_succ]
      refine' stage_take (i := 3) _ rfl (by kernel_rfl) (by kernel_rfl) (by kernel_rfl) (by kernel_rfl) (fun _ _ _ h => h) ⟨HS.1.b3.cell 4, HS.2.cell 0, HS.2.cell 1, HS.2.cell 2, HS.2.cell 3, HS⟩ _ (fun W hW => _) _
      rotate_left
      focus (go_simp; done)
      focus (obtain ⟨k1, k2, k3, k4, k5, X9⟩ := hW; go_simp; first | done | (with_reducible rfl))
      simp only [Act.put, List.setIfInBounds_toArray, List.set_cons_zero, List.set_cons_succ]
      refine' stage_take (i := 5) _ rfl (by kernel_rfl) (by kernel_rfl) (by kernel_rfl) (by kernel_rfl) (fun _ _ _ h => h) ⟨HS.1.b3.cell 4, HS.2.cell 0, HS.2.cell 1, HS.2.cell 2, HS.2.cell 3, HS⟩ _ (fun W hW => _) _
      rotate_left
      focus (go_simp; done)
      focus (obtain ⟨k1, k2, k3, k4, k5, X9⟩ := hW; go_simp; first | done | (with_reducible rfl))
      simp only [Act.put, List.setIfInBounds_toArray, List.set_cons_zero, List.set_cons_succ]
      refine' stage_take (i := 6) _ rfl (by kernel_rfl) (by kernel_rfl) (by kernel_rfl) (by kernel_rfl) (fun _ _ _ h => h) ⟨HS.1.b3.cell 4, HS.2.cell 0, HS.2.cell 1, HS.2.cell 2, HS.2.cell 3, HS⟩ _ (fun W hW => _) _
      rotate_left
      focus (go_simp; done)
      focus (obtain ⟨k1, k2, k3, k4, k5, X9⟩ := hW; go_simp; first | done | (with_reducible rfl))
      simp only [Act.put, List.setIfInBounds_toArray, List.set_cons_zero, List.set_cons_succ]
      refine' stage_take (i := 8) _ rfl (by kernel_rfl) (by kernel_rfl) (by kernel_rfl) (by kernel_rfl) (fun _ _ _ h => h) ⟨HS.1.b3.cell 4, HS.2.cell 0, HS.2.cell 1, HS.2.cell 2, HS.2.cell 3, HS⟩ _ (fun W hW => _) _
      rotate_left
      focus (go_simp; done)
      focus (obtain ⟨k1, k2, k3, k4, k5, X9⟩ := hW; go_simp; first | done | (with_reducible rfl))
      simp only [Act.put, List.setIfInBounds_toArray, List.set_cons_zero, List.set_cons_succ]
      refine' stage_take (i := 9) _ rfl (by kernel_rfl) (by kernel_rfl) (by kernel_rfl) (by kernel_rfl) (fun _ _ _ h => h) ⟨HS.1.b3.cell 4, HS.2.cell 0, HS.2.cell 1, HS.2.cell 2, HS.2.cell 3, HS⟩ _ (fun W hW => _) _
      rotate_left
      focus (go_simp; done)
      focus (obtain ⟨k1, k2, k3, k4, k5, X9⟩ := hW; go_simp; first | done | (with_reducible rfl))
      simp only [Act.put, List.setIfInBounds_toArray, List.set_cons_zero, List.set_cons_succ]
      refine' stage_take (i := 10) _ rfl (by kernel_rfl) (by kernel_rfl) (by kernel_rfl) (by kernel_rfl) (fun _ _ _ h => h) ⟨HS.1.b3.cell 4, HS.2.cell 0, HS.2.cell 1, HS.2.cell 2, HS.2.cell 3, HS⟩ _ (fun W hW => _) _
      rotate_left
      focus (go_simp; done)
      focus (obtain ⟨k1, k2, k3, k4, k5, X9⟩ := hW; go_simp; first | done | (with_reducible rfl))
      simp only [Act.put, List.setIfInBounds_toArray, List.set_cons_zero, List.set_cons_succ]
      refine' stage_take (i := 11) _ rfl (by kernel_rfl) (by kernel_rfl) (by kernel_rfl) (by kernel_rfl) (fun _ _ _ h => h) ⟨HS.1.b3.cell 4, HS.2.cell 0, HS.2.cell 1, HS.2.cell 2, HS.2.cell 3, HS⟩ _ (fun W hW => _) _
      rotate_left
      focus (go_simp; done)
      focus (obtain ⟨k1, k2, k3, k4, k5, X9⟩ := hW; go_simp; first | done | (with_reducible rfl))
      simp only [Act.put, List.setIfInBounds_toArray, List.set_cons_zero, List.set_cons_succ]
      refine stage_only (i := 4) rfl (by kernel_rfl) ?_ (fun K hK => ?_)
      focus (go_simp; done)
      go_simp
      replace HS := And.intro (HS.1.keep ((Below.refl _ _).alloc (Nat.le_refl _) (.cells #[] 3))) (HS.2.alloc (.cells #[] 3))
      refine hK.out _ _ (fun _ => ⟨HS.1.b3.cell 4, HS.2.cell 0, HS.2.cell 1, HS.2.cell 2, HS.2.cell 3, HS⟩) ?_
      clear hK K
      try simp only [Act.put, List.setIfInBounds_toArray, List.set_cons_zero, List.set_cons_succ]
      refine stage_only (i := 7) rfl (by kernel_rfl) ?_ (fun K hK => ?_)
      focus (go_simp; done)
      refine wp_append_at (.tmp 35) (.tmp 37) elem_int rfl wa.heap.size (.slice (some ⟨wa.heap.size, 0, none⟩) 0 0) 0 [] rfl (owns_empty wa.drew _ _ _ (Nat.le_refl _)) ca x1.length cc (i64s x1) rfl (by rw [i64s_len]; omega) (HCat.out _ HS.1.low) (one_i64 x1) (by unfold maxLen; omega) (by omega) (by simp) ?_
      intro v9 w9 own9 bel9 _ _
      simp only [Nat.zero_add, List.nil_append] at own9
      obtain ⟨p9, q9, rfl, _⟩ := at_of_owns own9
      have hb9 := ((Below.refl wa.heap.size wa.drew).alloc (Nat.le_refl _) _).trans bel9
      clear HS
      have HS := And.intro (HS1.out.1.drew.rb.keep hb9) ((box_drew HS1.out.2).keep hb9)
      replace HS := HS
      refine hK.out _ _ (fun _ => ⟨HS.1.b3.cell 4, HS.2.cell 0, HS.2.cell 1, HS.2.cell 2, HS.2.cell 3, HS⟩) ?_
      clear hK K
      try simp only [Act.put, List.setIfInBounds_toArray, List.set_cons_zero, List.set_cons_succ]
      refine' stage_take (i := 12) _ rfl (by kernel_rfl) (by kernel_rfl) (by kernel_rfl) (by kernel_rfl) (fun _ _ _ h => h) ⟨HS.1.b3.cell 4, HS.2.cell 0, HS.2.cell 1, HS.2.cell 2, HS.2.cell 3, HS⟩ _ (fun W hW => _) _
      rotate_left
      focus (go_simp; done)
      focus (obtain ⟨k1, k2, k3, k4, k5, X9⟩ := hW; go_simp; first | done | (with_reducible rfl))
      simp only [Act.put, List.setIfInBounds_toArray, List.set_cons_zero, List.set_cons_succ]
      refine stage_only (i := 13) rfl (by kernel_rfl) ?_ (fun K hK => ?_)
      focus (go_simp; done)
      go_simp
      replace HS := And.intro (HS.1.keep ((Below.refl _ _).alloc (Nat.le_refl _) (.cells #[.int .i64 x0, .slice p9 x1.length q9, .bool x2, .int .i64 x3] 46))) (HS.2.alloc (.cells #[.int .i64 x0, .slice p9 x1.length q9, .bool x2, .int .i64 x3] 46))
      refine hK.out _ _ (fun _ => ⟨HS.1.b3.cell 4, HS.2.cell 0, HS.2.cell 1, HS.2.cell 2, HS.2.cell 3, HS⟩) ?_
      clear hK K
      try simp only [Act.put, List.setIfInBounds_toArray, List.set_cons_zero, List.set_cons_succ]
      refine stage_only (i := 14) rfl (by kernel_rfl) ?_ (fun K hK => ?_)
      focus (go_simp; done)
      have hlk : (l.accts.take k).length = k := by simp; omega
      have ho := (HS1.out.1.drew.own.below hb9).below ((Below.refl _ _).alloc (Nat.le_refl _) (.cells #[.int .i64 x0, .slice p9 x1.length q9, .bool x2, .int .i64 x3] 46))
      have HR := ho.accts
      simp only [hlk] at HR
      have hc9 := own9.alloc (.cells #[.int .i64 x0, .slice p9 x1.length q9, .bool x2, .int .i64 x3] 46)
      have hz9 : w.heap.size ≤ w9.heap.size := Nat.le_trans HS1.out.1.low.size hb9.size
      have hnew : At (w9.alloc (.cells #[.int .i64 x0, .slice p9 x1.length q9, .bool x2, .int .i64 x3] 46)) (some ⟨w9.heap.size, 0, none⟩) [.int .i64 x0, .slice p9 x1.length q9, .bool x2, .int .i64 x3] := at_alloc w9 #[.int .i64 x0, .slice p9 x1.length q9, .bool x2, .int .i64 x3] 46 (0, 0)
      refine wp_append_at (.tmp 32) (.tmp 44) elem_acc rfl w.heap.size (.slice p4 k q4) k (us.flatMap accC) rfl HR (some ⟨w9.heap.size, 0, none⟩) 1 1 [.int .i64 x0, .slice p9 x1.length q9, .bool x2, .int .i64 x3] rfl rfl hnew (by simp [Value.oneCell']) (by unfold maxLen; omega) (by omega) (by rw [World.size_alloc]; omega) ?_
      intro v4 w4 own4 bel4 g4 _
      obtain ⟨p5, q5, rfl, _⟩ := at_of_owns own4
      have Y2 : Box w4 (w.heap.size + 1) 31 zeroL := box_grown HS.1.b2 HR (by decide) g4
      have Y1 := box_grown HS.1.b1 HR (by decide) g4
      have Y3 := box_grown HS.1.b3 HR (by decide) g4
      have hx9 : ∀ x ∈ us, Apart x.1 (.slice p9 x1.length q9) := fun x hx => apart_new (HS1.out.1.own.cash x hx) own9 (Nat.le_refl _)
      have hv9 := apart_new HS1.out.1.own.avail own9 (Nat.le_refl _)
      have hp := ho.push (a := ⟨x0, x1, x2, x3⟩) (hc9.mono HS1.out.1.low.size) hx9 hv9 (n4 := p5) (k4 := q5) (by simp only [hlk]; exact own4) (by simp only [hlk]; exact g4)
      have HF : RC w w4 s l #[.int .i64 l.day, .slice p1 l.curs.length q1, .slice p2 l.unders.length q2, .slice p3 l.instrs.length q3, .slice p4 k q4, .slice none 0 0, .slice none 0 0, .slice none 0 0, .slice none 0 0] ⟨p1, q1, p2, q2, p3, q3, p5, q5, none, 0, none, 0, none, 0, none, 0⟩ ⟨l.day, l.curs, l.unders, l.instrs, l.accts.take (k + 1), [], [], [], []⟩ (us ++ [(.slice p9 x1.length q9, ⟨x0, x1, x2, x3⟩)]) := ⟨HS.1.low.trans bel4, Y1, Y2, Y3, by rw [HTake.out]; exact hp⟩
      have Y5 := box_kept HS.2 g4 hne5
      clear hp hx9 hv9 hnew HR own4 g4 ho
      replace HS := And.intro (RB.mk (HS.1.low.trans bel4) Y1 Y2 Y3) Y5
      refine hK.out _ _ (fun _ => ⟨HS.1.b3.cell 4, HS.2.cell 0, HS.2.cell 1, HS.2.cell 2, HS.2.cell 3, HS⟩) ?_
      clear hK K
      try simp only [Act.put, List.setIfInBounds_toArray, List.set_cons_zero, List.set_cons_succ]
      refine stage_only (i := 15) rfl (by kernel_rfl) ?_ (fun K hK => ?_)
      focus (go_simp; done)
      go_simp
      refine hK.out _ _ (fun h => absurd h (by decide)) ?_
      clear hK K
      try simp only [Act.put, List.setIfInBounds_toArray, List.set_cons_zero, List.set_cons_succ]
      refine stage_only (i := 16) rfl (by kernel_rfl) ?_ (fun K hK => ?_)
      focus (go_simp; done)
      have ck : w4.cell? ⟨w.heap.size + 2, 4, none⟩ = some (.slice p4 k q4) := HF.b3.cell 4
      have fk := HF.b3.frozen 4
      go_simp
      clear ck fk
      refine hK.out _ _ (fun h => absurd h (by decide)) ?_
      clear hK K
      try simp only [Act.put, List.setIfInBounds_toArray, List.set_cons_zero, List.set_cons_succ]
      refine stage_end (by kernel_rfl) ?_
      have XF := Lib.hid (HF.put 4 (.slice p5 (k + 1) q5) HF.own)
      clear HF
      go_wp2_with fail
      go_roundw
      case rel => exact ⟨k + 1, p5, q5, _, by omega, by go_num, by simpa using XF.out⟩
      case measure => simp [intOf]; omega
    · have hkk : k = l.accts.length := by omega
      subst hkk
      rw [List.take_length] at X
      go_upto_region 10 with fail
      have e1 : (wr.alloc (.cells #[] 63)).cell? ⟨w.heap.size, 5, none⟩ = some (.slice s.a5 l.poss.length s.c5) := (X.b1.alloc _).cell 5
      have XH := Lib.hid X
      have HA5 := Lib.hid (HAt.out.poss.keep (X.low.alloc X.low.size (.cells #[] 63)))
      clear X
      go_upto_region 11 with (first | (at_builtin; refine wpList_append_at _ rfl (.tmp 48) (.tmp 50) elem_pos rfl wr.heap.size (.slice (some ⟨wr.heap.size, 0, none⟩) 0 0) 0 [] rfl (owns_empty wr _ _ _ (Nat.le_refl _)) s.a5 l.poss.length s.c5 (l.poss.flatMap triC) rfl (flat_len len_pos l.poss) HA5.out (one_flat one_pos l.poss) (by unfold maxLen; omega) (by omega) (by simp) ?_; intro v2 w5 own5 bel5 _ _; simp only [Nat.zero_add, List.nil_append] at own5; obtain ⟨p5, q5, rfl, _⟩ := at_of_owns own5; have X5o := XH.out.keep (((Below.refl _ _).alloc (Nat.le_refl _) _).trans bel5); have ck : w5.cell? ⟨w.heap.size + 2, 5, none⟩ = some (.slice none 0 0) := X5o.b3.cell 5; have fk := X5o.b3.frozen 5))
      have hown : LedOwn w.heap.size w5 ⟨p1, q1, p2, q2, p3, q3, p4, q4, p5, q5, none, 0, none, 0, none, 0⟩ ⟨l.day, l.curs, l.unders, l.instrs, l.accts, l.poss, [], [], []⟩ us := (X5o.own.lay_poss (own5.mono XH.out.low.size))
      have X5 : RC w (w5.setCell ⟨w.heap.size + 2, 5, none⟩ (.slice p5 l.poss.length q5)) s l #[.int .i64 l.day, .slice p1 l.curs.length q1, .slice p2 l.unders.length q2, .slice p3 l.instrs.length q3, .slice p4 l.accts.length q4, .slice p5 l.poss.length q5, .slice none 0 0, .slice none 0 0, .slice none 0 0] ⟨p1, q1, p2, q2, p3, q3, p4, q4, p5, q5, none, 0, none, 0, none, 0⟩ ⟨l.day, l.curs, l.unders, l.instrs, l.accts, l.poss, [], [], []⟩ us := X5o.put 5 (.slice p5 l.poss.length q5) hown
      clear e1 ck fk hown X5o own5 bel5 XH HA5
      generalize w5.setCell ⟨w.heap.size + 2, 5, none⟩ (.slice p5 l.poss.length q5) = w5b at *
      have e1 : (w5b.alloc (.cells #[] 65)).cell? ⟨w.heap.size, 6, none⟩ = some (.slice s.a6 l.orders.length s.c6) := (X5.b1.alloc _).cell 6
      have X5H := Lib.hid X5
      have HA6 := Lib.hid (HAt.out.orders.keep (X5.low.alloc X5.low.size (.cells #[] 65)))
      clear X5
      go_upto_region 12 with (first | (at_builtin; refine wpList_append_at _ rfl (.tmp 53) (.tmp 55) elem_ord rfl w5b.heap.size (.slice (some ⟨w5b.heap.size, 0, none⟩) 0 0) 0 [] rfl (owns_empty w5b _ _ _ (Nat.le_refl _)) s.a6 l.orders.length s.c6 (l.orders.flatMap ordC) rfl (flat_len len_ord l.orders) HA6.out (one_flat one_ord l.orders) (by unfold maxLen; omega) (by omega) (by simp) ?_; intro v2 w6 own6 bel6 _ _; simp only [Nat.zero_add, List.nil_append] at own6; obtain ⟨p6, q6, rfl, _⟩ := at_of_owns own6; have X6o := X5H.out.keep (((Below.refl _ _).alloc (Nat.le_refl _) _).trans bel6); have ck : w6.cell? ⟨w.heap.size + 2, 6, none⟩ = some (.slice none 0 0) := X6o.b3.cell 6; have fk := X6o.b3.frozen 6))
      have hown : LedOwn w.heap.size w6 ⟨p1, q1, p2, q2, p3, q3, p4, q4, p5, q5, p6, q6, none, 0, none, 0⟩ ⟨l.day, l.curs, l.unders, l.instrs, l.accts, l.poss, l.orders, [], []⟩ us := (X6o.own.lay_orders (own6.mono X5H.out.low.size))
      have X6 : RC w (w6.setCell ⟨w.heap.size + 2, 6, none⟩ (.slice p6 l.orders.length q6)) s l #[.int .i64 l.day, .slice p1 l.curs.length q1, .slice p2 l.unders.length q2, .slice p3 l.instrs.length q3, .slice p4 l.accts.length q4, .slice p5 l.poss.length q5, .slice p6 l.orders.length q6, .slice none 0 0, .slice none 0 0] ⟨p1, q1, p2, q2, p3, q3, p4, q4, p5, q5, p6, q6, none, 0, none, 0⟩ ⟨l.day, l.curs, l.unders, l.instrs, l.accts, l.poss, l.orders, [], []⟩ us := X6o.put 6 (.slice p6 l.orders.length q6) hown
      clear e1 ck fk hown X6o own6 bel6 X5H HA6
      generalize w6.setCell ⟨w.heap.size + 2, 6, none⟩ (.slice p6 l.orders.length q6) = w6b at *
      have e1 : (w6b.alloc (.cells #[] 3)).cell? ⟨w.heap.size, 7, none⟩ = some (.slice s.a7 l.avail.length s.c7) := (X6.b1.alloc _).cell 7
      have X6H := Lib.hid X6
      have HA7 := Lib.hid (HAt.out.avail.keep (X6.low.alloc X6.low.size (.cells #[] 3)))
      clear X6
      go_upto_region 13 with (first | (at_builtin; refine wpList_append_at _ rfl (.tmp 58) (.tmp 60) elem_int rfl w6b.heap.size (.slice (some ⟨w6b.heap.size, 0, none⟩) 0 0) 0 [] rfl (owns_empty w6b _ _ _ (Nat.le_refl _)) s.a7 l.avail.length s.c7 (i64s l.avail) rfl (by rw [i64s_len]; omega) HA7.out (one_i64 l.avail) (by unfold maxLen; omega) (by omega) (by simp) ?_; intro v2 w7 own7 bel7 _ _; simp only [Nat.zero_add, List.nil_append] at own7; obtain ⟨p7, q7, rfl, _⟩ := at_of_owns own7; have X7o := X6H.out.keep (((Below.refl _ _).alloc (Nat.le_refl _) _).trans bel7); have ck : w7.cell? ⟨w.heap.size + 2, 7, none⟩ = some (.slice none 0 0) := X7o.b3.cell 7; have fk := X7o.b3.frozen 7))
      have hown : LedOwn w.heap.size w7 ⟨p1, q1, p2, q2, p3, q3, p4, q4, p5, q5, p6, q6, p7, q7, none, 0⟩ ⟨l.day, l.curs, l.unders, l.instrs, l.accts, l.poss, l.orders, l.avail, []⟩ us := (X7o.own.lay_avail (own7.mono X6H.out.low.size) (fun x hx => (apart_new (X6H.out.own.cash x hx) own7 (Nat.le_refl _)).symm))
      have X7 : RC w (w7.setCell ⟨w.heap.size + 2, 7, none⟩ (.slice p7 l.avail.length q7)) s l #[.int .i64 l.day, .slice p1 l.curs.length q1, .slice p2 l.unders.length q2, .slice p3 l.instrs.length q3, .slice p4 l.accts.length q4, .slice p5 l.poss.length q5, .slice p6 l.orders.length q6, .slice p7 l.avail.length q7, .slice none 0 0] ⟨p1, q1, p2, q2, p3, q3, p4, q4, p5, q5, p6, q6, p7, q7, none, 0⟩ ⟨l.day, l.curs, l.unders, l.instrs, l.accts, l.poss, l.orders, l.avail, []⟩ us := X7o.put 7 (.slice p7 l.avail.length q7) hown
      clear e1 ck fk hown X7o own7 bel7 X6H HA7
      generalize w7.setCell ⟨w.heap.size + 2, 7, none⟩ (.slice p7 l.avail.length q7) = w7b at *
      have e1 : (w7b.alloc (.cells #[] 66)).cell? ⟨w.heap.size, 8, none⟩ = some (.slice s.a8 l.locs.length s.c8) := (X7.b1.alloc _).cell 8
      have X7H := Lib.hid X7
      have HA8 := Lib.hid (HAt.out.locs.keep (X7.low.alloc X7.low.size (.cells #[] 66)))
      clear X7
      go_upto_region 14 with (first | (at_builtin; refine wpList_append_at _ rfl (.tmp 63) (.tmp 65) elem_loc rfl w7b.heap.size (.slice (some ⟨w7b.heap.size, 0, none⟩) 0 0) 0 [] rfl (owns_empty w7b _ _ _ (Nat.le_refl _)) s.a8 l.locs.length s.c8 (l.locs.flatMap triC) rfl (flat_len len_loc l.locs) HA8.out (one_flat one_loc l.locs) (by unfold maxLen; omega) (by omega) (by simp) ?_; intro v2 w8 own8 bel8 _ _; simp only [Nat.zero_add, List.nil_append] at own8; obtain ⟨p8, q8, rfl, _⟩ := at_of_owns own8; have X8o := X7H.out.keep (((Below.refl _ _).alloc (Nat.le_refl _) _).trans bel8); have ck : w8.cell? ⟨w.heap.size + 2, 8, none⟩ = some (.slice none 0 0) := X8o.b3.cell 8; have fk := X8o.b3.frozen 8))
      have hown : LedOwn w.heap.size w8 ⟨p1, q1, p2, q2, p3, q3, p4, q4, p5, q5, p6, q6, p7, q7, p8, q8⟩ ⟨l.day, l.curs, l.unders, l.instrs, l.accts, l.poss, l.orders, l.avail, l.locs⟩ us := (X8o.own.lay_locs (own8.mono X7H.out.low.size))
      have X8 : RC w (w8.setCell ⟨w.heap.size + 2, 8, none⟩ (.slice p8 l.locs.length q8)) s l #[.int .i64 l.day, .slice p1 l.curs.length q1, .slice p2 l.unders.length q2, .slice p3 l.instrs.length q3, .slice p4 l.accts.length q4, .slice p5 l.poss.length q5, .slice p6 l.orders.length q6, .slice p7 l.avail.length q7, .slice p8 l.locs.length q8] ⟨p1, q1, p2, q2, p3, q3, p4, q4, p5, q5, p6, q6, p7, q7, p8, q8⟩ ⟨l.day, l.curs, l.unders, l.instrs, l.accts, l.poss, l.orders, l.avail, l.locs⟩ us := X8o.put 8 (.slice p8 l.locs.length q8) hown
      clear e1 ck fk hown X8o own8 bel8 X7H HA8
      generalize w8.setCell ⟨w.heap.size + 2, 8, none⟩ (.slice p8 l.locs.length q8) = w8b at *
      have XE := Lib.hid X8
      clear X8
      have c0 : w8b.cell? ⟨w.heap.size + 2, 0, none⟩ = some (.int .i64 l.day) := XE.out.b3.cell 0
      have f0 : w8b.cell? ⟨w.heap.size + 1, 0, none⟩ = some (.int .i64 0) := XE.out.b2.cell 0
      have r0 : w8b.frozen? ⟨w.heap.size + 1, 0, none⟩ = false := XE.out.b2.frozen 0
      have c1 : w8b.cell? ⟨w.heap.size + 2, 1, none⟩ = some (.slice p1 l.curs.length q1) := XE.out.b3.cell 1
      have f1 : w8b.cell? ⟨w.heap.size + 1, 1, none⟩ = some (.slice none 0 0) := XE.out.b2.cell 1
      have r1 : w8b.frozen? ⟨w.heap.size + 1, 1, none⟩ = false := XE.out.b2.frozen 1
      have c2 : w8b.cell? ⟨w.heap.size + 2, 2, none⟩ = some (.slice p2 l.unders.length q2) := XE.out.b3.cell 2
      have f2 : w8b.cell? ⟨w.heap.size + 1, 2, none⟩ = some (.slice none 0 0) := XE.out.b2.cell 2
      have r2 : w8b.frozen? ⟨w.heap.size + 1, 2, none⟩ = false := XE.out.b2.frozen 2
      have c3 : w8b.cell? ⟨w.heap.size + 2, 3, none⟩ = some (.slice p3 l.instrs.length q3) := XE.out.b3.cell 3
      have f3 : w8b.cell? ⟨w.heap.size + 1, 3, none⟩ = some (.slice none 0 0) := XE.out.b2.cell 3
      have r3 : w8b.frozen? ⟨w.heap.size + 1, 3, none⟩ = false := XE.out.b2.frozen 3
      have c4 : w8b.cell? ⟨w.heap.size + 2, 4, none⟩ = some (.slice p4 l.accts.length q4) := XE.out.b3.cell 4
      have f4 : w8b.cell? ⟨w.heap.size + 1, 4, none⟩ = some (.slice none 0 0) := XE.out.b2.cell 4
      have r4 : w8b.frozen? ⟨w.heap.size + 1, 4, none⟩ = false := XE.out.b2.frozen 4
      have c5 : w8b.cell? ⟨w.heap.size + 2, 5, none⟩ = some (.slice p5 l.poss.length q5) := XE.out.b3.cell 5
      have f5 : w8b.cell? ⟨w.heap.size + 1, 5, none⟩ = some (.slice none 0 0) := XE.out.b2.cell 5
      have r5 : w8b.frozen? ⟨w.heap.size + 1, 5, none⟩ = false := XE.out.b2.frozen 5
      have c6 : w8b.cell? ⟨w.heap.size + 2, 6, none⟩ = some (.slice p6 l.orders.length q6) := XE.out.b3.cell 6
      have f6 : w8b.cell? ⟨w.heap.size + 1, 6, none⟩ = some (.slice none 0 0) := XE.out.b2.cell 6
      have r6 : w8b.frozen? ⟨w.heap.size + 1, 6, none⟩ = false := XE.out.b2.frozen 6
      have c7 : w8b.cell? ⟨w.heap.size + 2, 7, none⟩ = some (.slice p7 l.avail.length q7) := XE.out.b3.cell 7
      have f7 : w8b.cell? ⟨w.heap.size + 1, 7, none⟩ = some (.slice none 0 0) := XE.out.b2.cell 7
      have r7 : w8b.frozen? ⟨w.heap.size + 1, 7, none⟩ = false := XE.out.b2.frozen 7
      have c8 : w8b.cell? ⟨w.heap.size + 2, 8, none⟩ = some (.slice p8 l.locs.length q8) := XE.out.b3.cell 8
      have f8 : w8b.cell? ⟨w.heap.size + 1, 8, none⟩ = some (.slice none 0 0) := XE.out.b2.cell 8
      have r8 : w8b.frozen? ⟨w.heap.size + 1, 8, none⟩ = false := XE.out.b2.frozen 8
      go_wp2_with fail
      clear c0 f0 r0 c1 f1 r1 c2 f2 r2 c3 f3 r3 c4 f4 r4 c5 f5 r5 c6 f6 r6 c7 f7 r7 c8 f8 r8
      exact bodyPost_ret (results_cell (by rfl) _ _ (fill_box XE.out.b2 _ _ _ _ _ _ _ _ _) Tryz.underlying31 rfl (by kernel_rfl) rfl) rfl ⟨⟨p1, q1, p2, q2, p3, q3, p4, q4, p5, q5, p6, q6, p7, q7, p8, q8⟩, us, rfl, fill_own XE.out.own XE.out.b2 _ _ _ _ _ _ _ _ _, fill_low XE.out.low (by omega) _ _ _ _ _ _ _ _ _⟩
end Go.Proofs.YtocjfjikkdpfdaaGreatDoor.LedW
namespace Go.Proofs.YtocjfjikkdpfdaaGreatDoor.LedW
open Go.RowKit Go.Proofs.YtocjfjikkdpfdaaGreatDoor.Bas Go.Proofs.YtocjfjikkdpfdaaGreatDoor.LedM Go.Proofs.YtocjfjikkdpfdaaGreatDoor.FixpM

theorem LedFit.set {l : Led} (hf : LedFit l) {v c : Nat} {x : Int} (hx : FixpW.I64 x) : LedFit (setCash l v c x) := by
  obtain ⟨h0, h1, h2, h3, h4, h5, h6, h7, h8, h9⟩ := hf
  refine ⟨by rw [setCash_len]; exact h0, h1, h2, h3, h4, fun a ha => ?_, h6, h7, h8, h9⟩
  rcases mem_modify (show a ∈ l.accts.modify v _ from ha) with h' | ⟨a0, h', rfl⟩
  · exact h5 a h'
  · obtain ⟨b1, b2, b3, b4⟩ := h5 a0 (List.mem_of_getElem? h')
    refine ⟨b1, b2, fun y hy => ?_, by simpa [putCash] using b4⟩
    rcases List.mem_or_eq_of_mem_set hy with hy | rfl
    · exact b3 y hy
    · exact hx
theorem payF_nofit {l : Led} {cur amount fr to_ : Int} (h1 : endF l cur fr = 0) (h2 : endF l cur to_ = 0) (hn : fits amount = false) : payF l cur amount fr to_ = (zeroLed, 4) := payF_sub h1 h2 (x1 := 0) (by unfold subF; rw [hn, Bool.and_false]; rfl) (by decide)
/-- an account's four cells -/
theorem own_row4 {base : Nat} {W : World} {s : Lists} {l : Led} {us : List (Value × Acc)} (h : LedOwn base W s l us) {k : Nat} (hk : k < us.length) {g : Nat} (ha : s.a4 = some ⟨g, 0, none⟩) (c : Nat) (u : Value) (hu : (accC us[k])[c]? = some u) : W.cell? ⟨g, k * 4 + c, none⟩ = some u := by
  obtain ⟨b, off, h1, h2⟩ := rec_at len_acc (by decide) h.at_.accts hk
  rw [ha] at h1
  cases h1
  have := h2 c u hu
  rwa [Nat.zero_add] at this
theorem fill9_box {W : World} {g : Nat} {t : TypeId} {z0 z1 z2 z3 z4 z5 z6 z7 z8 : Value} (hb : Box W g t #[z0, z1, z2, z3, z4, z5, z6, z7, z8]) (v0 v1 v2 v3 v4 v5 v6 v7 v8 : Value) : Box (((((((((W.setCell ⟨g, 0, none⟩ v0).setCell ⟨g, 1, none⟩ v1).setCell ⟨g, 2, none⟩ v2).setCell ⟨g, 3, none⟩ v3).setCell ⟨g, 4, none⟩ v4).setCell ⟨g, 5, none⟩ v5).setCell ⟨g, 6, none⟩ v6).setCell ⟨g, 7, none⟩ v7).setCell ⟨g, 8, none⟩ v8) g t #[v0, v1, v2, v3, v4, v5, v6, v7, v8] := by
  have := ((((((((hb.set 0 v0).set 1 v1).set 2 v2).set 3 v3).set 4 v4).set 5 v5).set 6 v6).set 7 v7).set 8 v8
  simpa using this
theorem fill9_far {W : World} {g g' : Nat} {t : TypeId} {cs : Array Value} (hb : Box W g' t cs) (h : g' ≠ g) (v0 v1 v2 v3 v4 v5 v6 v7 v8 : Value) : Box (((((((((W.setCell ⟨g, 0, none⟩ v0).setCell ⟨g, 1, none⟩ v1).setCell ⟨g, 2, none⟩ v2).setCell ⟨g, 3, none⟩ v3).setCell ⟨g, 4, none⟩ v4).setCell ⟨g, 5, none⟩ v5).setCell ⟨g, 6, none⟩ v6).setCell ⟨g, 7, none⟩ v7).setCell ⟨g, 8, none⟩ v8) g' t cs :=
  ((((((((hb.far (p := ⟨g, 0, none⟩) h v0).far (p := ⟨g, 1, none⟩) h v1).far (p := ⟨g, 2, none⟩) h v2).far (p := ⟨g, 3, none⟩) h v3).far (p := ⟨g, 4, none⟩) h v4).far (p := ⟨g, 5, none⟩) h v5).far (p := ⟨g, 6, none⟩) h v6).far (p := ⟨g, 7, none⟩) h v7).far (p := ⟨g, 8, none⟩) h v8
theorem give_low {A B : World} {P1 : Int → Prop} {P2 : Int → Lists → List (Value × Acc) → Prop} {P3 : Int → Lists → List (Value × Acc) → Prop} {P4 : Int → Int → Prop} {P5 : Int → Int → Prop} {P6 : Int → Int → Prop}
    (h : (∃ x1, P1 x1 ∧ ∃ s' us, P2 x1 s' us ∧ P3 x1 s' us ∧ Below A.heap.size A B) ∨ (∃ x1 x2, P4 x1 x2 ∧ P5 x1 x2 ∧ P6 x1 x2 ∧ Below A.heap.size A B)) : Below A.heap.size A B := by
  rcases h with ⟨_, _, _, _, _, _, h⟩ | ⟨_, _, _, _, _, h⟩ <;> exact h
end Go.Proofs.YtocjfjikkdpfdaaGreatDoor.LedW
namespace Go.Proofs.YtocjfjikkdpfdaaGreatDoor.LedW
open Go.RowKit Go.Proofs.YtocjfjikkdpfdaaGreatDoor.Bas Go.Proofs.YtocjfjikkdpfdaaGreatDoor.LedM Go.Proofs.YtocjfjikkdpfdaaGreatDoor.FixpM

theorem fit_first : LedFit firstL := by
  refine ⟨by decide, ⟨by decide, by decide⟩, ?_, ?_, ?_, ?_, ?_, ?_, ?_, ?_⟩
  · intro x hx
    have : x = (1000000, 0) := by simpa [firstL] using hx
    subst this
    exact ⟨⟨by decide, by decide⟩, by decide, by decide⟩
  · intro x hx; simp [firstL] at hx
  · intro x hx; simp [firstL] at hx
  · intro x hx
    have : x = ⟨-1, [0], false, 0⟩ := by simpa [firstL] using hx
    subst this
    refine ⟨⟨by decide, by decide⟩, ⟨by decide, by decide⟩, ?_, by decide⟩
    intro z hz
    have : z = 0 := by simpa using hz
    subst this
    exact ⟨by decide, by decide⟩
  · intro x hx; simp [firstL] at hx
  · intro x hx; simp [firstL] at hx
  · intro x hx; simp [firstL] at hx
  · intro x hx; simp [firstL] at hx
def paidL : Led := ⟨0, [(1000000, 0)], [], [], [⟨-1, [-5], false, 0⟩, ⟨-1, [5], false, 0⟩], [], [], [], []⟩
theorem pay_first : payF firstL 0 5 0 1 = (paidL, 0) := by decide
theorem fit_paid : LedFit paidL := by
  have := (fit_first.set (v := 0) (c := 0) (x := -5) ⟨by decide, by decide⟩).set (v := 1) (c := 0) (x := 5) ⟨by decide, by decide⟩
  exact this
theorem good_first : goodF firstL = true := by decide
theorem good_paid : goodF paidL = true := by decide
end Go.Proofs.YtocjfjikkdpfdaaGreatDoor.LedW
namespace Go.Proofs.YtocjfjikkdpfdaaGreatDoor.LedW
open Go.ChangeShapes Go.WideShapes Go.ChangeAt Go.RowKit Go.Proofs.YtocjfjikkdpfdaaGreatDoor.Bas Go.Proofs.YtocjfjikkdpfdaaGreatDoor.LedM

def strC (x : List UInt8) : List Value := [.string ⟨x.toArray⟩]
theorem len_str (x : List UInt8) : (strC x).length = 1 := rfl
/-- the tables' cells, for a witness -/
def accepts : List Nat := [128, 191, 160, 191, 128, 159, 144, 191, 128, 143, 0, 0, 0, 0, 0, 0, 0, 0, 0, 0, 0, 0, 0, 0, 0, 0, 0, 0, 0, 0, 0, 0]
def acceptCells : Array Value := (accepts.map fun (n : Nat) => Value.int .u8 (n : Int)).toArray
def firstCells : Array Value := (Go.Pinned.utf8FirstZ.map fun (n : Nat) => Value.int .u8 (n : Int)).toArray
end Go.Proofs.YtocjfjikkdpfdaaGreatDoor.LedW
