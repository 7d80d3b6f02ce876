/- Good of a ledger: the program's answer. -/
import Derived.Test.YtocjfjikkdpfdaaGreatDoorLedAccounts
set_option linter.unusedSimpArgs false
set_option linter.unusedVariables false
namespace Go.Proofs.YtocjfjikkdpfdaaGreatDoor.LedW
open Go.RowKit Go.Proofs.YtocjfjikkdpfdaaGreatDoor.Bas Go.Proofs.YtocjfjikkdpfdaaGreatDoor.LedM Go.Proofs.YtocjfjikkdpfdaaGreatDoor.RefW

theorem lastOf_at {l : Led} {v : Int} (h : v.toNat < l.accts.length) : lastOf l.accts v = (l.accts[v.toNat]).last := by
  unfold lastOf
  rw [List.getElem?_eq_getElem h]
  rfl
set_option maxRecDepth 100000 in
theorem goodAsk_calls (x0 x1 x2 x3 x4 : Int) (w : World) (g : Nat) (s : Lists) (l : Led) (vs : List (Value × Acc)) (W : World) (H : LedH w W g s l vs) (h0 : 2 ≤ x0) (hn : x0 < l.accts.length) :
    Calls Tryz.prog 43 #[.agg #[.int .i64 x0, .int .i64 x1, .int .i64 x2, .int .i64 x3, .int .i64 x4], .pointer (some ⟨g, 0, none⟩)] W fun e W' => e = .returned (.bool (!idOk l ⟨x0, x1, x2, x3, x4⟩)) ∧ Below W.heap.size W W' := by
  have X := Box.new W 65 #[.int .i64 x0, .int .i64 x1, .int .i64 x2, .int .i64 x3, .int .i64 x4]
  have B := (Below.refl W.heap.size W).alloc (Nat.le_refl _) (.cells #[.int .i64 x0, .int .i64 x1, .int .i64 x2, .int .i64 x3, .int .i64 x4] 65)
  have H1 := H.keep B
  obtain ⟨m, rfl⟩ : ∃ m : Nat, x0 = m := ⟨x0.toNat, by omega⟩
  have hm : m < l.accts.length := by omega
  have hlv : m < vs.length := by have := LedAt.len H.at_; omega
  obtain ⟨b, off, ha, C1⟩ := rec_at len_acc (by decide) H1.at_.accts hlv
  have he := LedAt.acc H.at_ hlv hm
  have HL := Lib.hid (lastOf_at (l := l) (v := (m : Int)) hm)
  have c3 := C1 3 _ rfl
  have e4 := H1.c4
  rw [ha] at e4
  rw [he] at c3
  clear H H1 C1 he ha
  simp only [← Nat.add_assoc] at c3
  rw [show (l.accts[m]).last = lastOf l.accts (m : Int) from HL.out.symm] at c3
  have HI : Hid (idOk l ⟨(m : Int), x1, x2, x3, x4⟩ = decide (x1 ≤ lastOf l.accts (m : Int))) := rfl
  clear HL
  generalize lastOf l.accts (m : Int) = q at *
  go_enter Tryz.func43, Tryz.ntmps43
  go_upto_region 1 with fail
  generalize W.alloc (.cells #[.int .i64 (m : Int), .int .i64 x1, .int .i64 x2, .int .i64 x3, .int .i64 x4] 65) = w0 at *
  have d0 : w0.cell? ⟨W.heap.size, 0, none⟩ = some (.int .i64 (m : Int)) := X.cell 0
  have d1 : w0.cell? ⟨W.heap.size, 1, none⟩ = some (.int .i64 x1) := X.cell 1
  clear X
  have hmi : 0 ≤ (m : Int) ∧ (m : Int) < (l.accts.length : Int) := by omega
  go_quiet (fail)
  go_wp2_with fail
  go_ret
  exact ⟨ret_bool (by rw [HI.out, Bool.eq_iff_iff]; simp), below_drewN B _⟩
theorem asks_good (w : World) (g : Nat) (s : Lists) (l : Led) (vs : List (Value × Acc)) (h : ∀ o ∈ l.orders, 2 ≤ o.acct ∧ o.acct < l.accts.length) : Asks Tryz.prog 43 #[.pointer (some ⟨g, 0, none⟩)] ordV (fun o => !idOk l o) l.orders (fun W => LedH w W g s l vs) := fun x hx W H => goodAsk_calls x.acct x.id x.instr x.qty x.price w g s l vs W H (h x hx).1 (h x hx).2
theorem orders_each {l : List Ord} {n k : Int} (h : ordersF l n k = true) : ∀ o ∈ l, 2 ≤ o.acct ∧ o.acct < n := fun o ho => by
  unfold ordersF at h
  rw [Bool.and_eq_true] at h
  have := (ordOk_iff n k o.acct o.id o.instr o.qty o.price).1 (List.all_eq_true.1 h.2 o ho)
  exact ⟨this.1, this.2.1⟩
set_option maxHeartbeats 4000000 in
set_option maxRecDepth 100000 in
theorem lgood_calls (s : Lists) (l : Led) (vs : List (Value × Acc)) (w : World) (hat : LedAt w s l vs) (hf : LedFit l) :
    Calls Tryz.prog 19 #[ledV s l] w fun e w' => e = .returned (.bool (goodF l)) ∧ Below w.heap.size w w' := by
  have HFit := Lib.hid hf
  obtain ⟨l1, l2, l3, l4, l5, l6, l7, l8⟩ := hf.len
  have C1 := Lib.hid (fun W h => things_calls s l vs W h hf)
  have C2 := Lib.hid (fun W h => accounts_calls s l vs W h hf)
  unfold ledV at *
  have X := ledH_new w s l vs hat
  clear hat hf
  go_enter Tryz.func19, Tryz.ntmps19
  go_upto_region 1 with fail
  generalize w.alloc (.cells #[.int .i64 l.day, .slice s.a1 l.curs.length s.c1, .slice s.a2 l.unders.length s.c2, .slice s.a3 l.instrs.length s.c3, .slice s.a4 l.accts.length s.c4, .slice s.a5 l.poss.length s.c5, .slice s.a6 l.orders.length s.c6, .slice s.a7 l.avail.length s.c7, .slice s.a8 l.locs.length s.c8] 31) = w0 at X ⊢
  have hG : goodF l = (decide (0 ≤ l.day ∧ l.day ≤ 100000) && (thingsF l && (accountsF l && (possF l.poss l.accts.length l.instrs.length && (ordersF l.orders l.accts.length l.instrs.length && (locsF l.avail l.locs l.accts.length l.instrs.length && l.orders.all (idOk l))))))) := rfl
  have HG := Lib.hid hG
  clear hG
  have c0 := X.c0
  have XH := Lib.hid X
  by_cases hd : 0 ≤ l.day ∧ l.day ≤ 100000
  rotate_left
  · have HX : Hid (goodF l = false) := by unfold Hid; rw [HG.out, decide_eq_false hd]; rfl
    have HN := Lib.hid hd
    clear hd X
    go_wp2_with fail
    all_goals first
      | (go_ret; exact ⟨ret_bool HX.out.symm, XH.out.low⟩)
      | (exfalso; clear c0; have := HN.out; omega)
  have HG2 : Hid (goodF l = (thingsF l && (accountsF l && (possF l.poss l.accts.length l.instrs.length && (ordersF l.orders l.accts.length l.instrs.length && (locsF l.avail l.locs l.accts.length l.instrs.length && l.orders.all (idOk l))))))) := by unfold Hid; rw [HG.out, decide_eq_true hd, Bool.true_and]
  clear HG
  obtain ⟨d1, d2⟩ := hd
  have c1 := X.c1
  have c2 := X.c2
  have c3 := X.c3
  have c4 := X.c4
  have c5 := X.c5
  have c6 := X.c6
  have c7 := X.c7
  have c8 := X.c8
  clear X
  generalize thingsF l = r1 at C1 HG2
  cases r1
  · go_wp2_with (go_at_call 37; refine (C1.out _ XH.out.at_).mono ?_; rintro e w1 ⟨rfl, b1⟩)
    go_ret
    exact ⟨ret_bool HG2.out.symm, XH.out.low.trans (b1.mono XH.out.low.size)⟩
  generalize accountsF l = r2 at C2 HG2
  cases r2
  · go_wp2_with (first | (go_at_call 37; refine (C1.out _ XH.out.at_).mono ?_; rintro e w1 ⟨rfl, b1⟩; have X1 := Lib.hid (XH.out.keep b1); clear b1; have e0 := X1.out.c0; have e1 := X1.out.c1; have e2 := X1.out.c2; have e3 := X1.out.c3; have e4 := X1.out.c4; have e5 := X1.out.c5; have e6 := X1.out.c6; have e7 := X1.out.c7; have e8 := X1.out.c8) | (go_at_call 38; refine (C2.out _ X1.out.at_).mono ?_; rintro e w2 ⟨rfl, b2⟩))
    go_ret
    exact ⟨ret_bool HG2.out.symm, X1.out.low.trans (b2.mono X1.out.low.size)⟩
  go_upto_region 3 with (first | (go_at_call 37; refine (C1.out _ XH.out.at_).mono ?_; rintro e w1 ⟨rfl, b1⟩; have X1 := Lib.hid (XH.out.keep b1); clear b1; have e0 := X1.out.c0; have e1 := X1.out.c1; have e2 := X1.out.c2; have e3 := X1.out.c3; have e4 := X1.out.c4; have e5 := X1.out.c5; have e6 := X1.out.c6; have e7 := X1.out.c7; have e8 := X1.out.c8) | (go_at_call 38; refine (C2.out _ X1.out.at_).mono ?_; rintro e w2 ⟨rfl, b2⟩; have X2 := Lib.hid (X1.out.keep b2); clear b2))
  clear c0 c1 c2 c3 c4 c5 c6 c7 c8 e0 e1 e2 e3 e4 e5 e6 e7 e8 XH X1 C1 C2
  have c3 := X2.out.c3
  have c4 := X2.out.c4
  go_quiet (fail)
  have X3 := Lib.hid (X2.out.drewN nq)
  clear X2 c3 c4
  generalize w2.drewN nq = w3 at *
  have P1 := Lib.hid (fun W h => poss_calls s.a5 s.c5 l.poss (l.accts.length : Nat) (l.instrs.length : Nat) W (by omega) h)
  have P2 := Lib.hid (fun W h => orders_calls s.a6 s.c6 l.orders (l.accts.length : Nat) (l.instrs.length : Nat) W (by omega) h)
  have P3 := Lib.hid (fun W h h2 => locate_calls s.a8 s.a7 s.c8 s.c7 l.avail l.locs (l.accts.length : Nat) (l.instrs.length : Nat) W (by omega) (by omega) h h2)
  have c5 := X3.out.c5
  generalize possF l.poss l.accts.length l.instrs.length = r1 at P1 HG2
  cases r1
  · go_wp2_with (go_at_call 39; refine (P1.out _ X3.out.at_.poss).mono ?_; rintro e w4 ⟨rfl, b4⟩)
    go_ret
    exact ⟨ret_bool HG2.out.symm, X3.out.low.trans (b4.mono X3.out.low.size)⟩
  have HO := Lib.hid (orders_each (l := l.orders) (n := (l.accts.length : Nat)) (k := (l.instrs.length : Nat)))
  generalize ordersF l.orders l.accts.length l.instrs.length = r2 at P2 HG2 HO
  cases r2
  · go_wp2_with (first | (go_at_call 39; refine (P1.out _ X3.out.at_.poss).mono ?_; rintro e w4 ⟨rfl, b4⟩; have X4 := Lib.hid (X3.out.keep b4); clear b4 c5; have c6 := X4.out.c6) | (go_at_call 40; refine (P2.out _ X4.out.at_.orders).mono ?_; rintro e w5 ⟨rfl, b5⟩))
    go_ret
    exact ⟨ret_bool HG2.out.symm, X4.out.low.trans (b5.mono X4.out.low.size)⟩
  have HO2 := Lib.hid (HO.out rfl)
  clear HO
  generalize locsF l.avail l.locs l.accts.length l.instrs.length = r3 at P3 HG2
  cases r3
  · go_wp2_with (first | (go_at_call 39; refine (P1.out _ X3.out.at_.poss).mono ?_; rintro e w4 ⟨rfl, b4⟩; have X4 := Lib.hid (X3.out.keep b4); clear b4 c5; have c6 := X4.out.c6) | (go_at_call 40; refine (P2.out _ X4.out.at_.orders).mono ?_; rintro e w5 ⟨rfl, b5⟩; have X5 := Lib.hid (X4.out.keep b5); clear b5 c6; have c7 := X5.out.c7; have c8 := X5.out.c8) | (go_at_call 41; refine (P3.out _ X5.out.at_.avail X5.out.at_.locs).mono ?_; rintro e w6 ⟨rfl, b6⟩))
    go_ret
    exact ⟨ret_bool HG2.out.symm, X5.out.low.trans (b6.mono X5.out.low.size)⟩
  have Q := Lib.hid (fun W (h : LedH w W w.heap.size s l vs) => contains_good s.a6 s.c6 l.orders w.heap.size _ _ W (by omega) h.at_.orders h (ledH_keeps w w.heap.size s l vs) (asks_good w w.heap.size s l vs HO2.out))
  have HX := Lib.hid (any_not (idOk l) l.orders)
  generalize (l.orders.any fun o => !idOk l o) = r4 at Q HX
  go_wp2_with (first | (go_at_call 39; refine (P1.out _ X3.out.at_.poss).mono ?_; rintro e w4 ⟨rfl, b4⟩; have X4 := Lib.hid (X3.out.keep b4); clear b4 c5; have c6 := X4.out.c6) | (go_at_call 40; refine (P2.out _ X4.out.at_.orders).mono ?_; rintro e w5 ⟨rfl, b5⟩; have X5 := Lib.hid (X4.out.keep b5); clear b5 c6; have c7 := X5.out.c7; have c8 := X5.out.c8) | (go_at_call 41; refine (P3.out _ X5.out.at_.avail X5.out.at_.locs).mono ?_; rintro e w6 ⟨rfl, b6⟩; have X6 := Lib.hid (X5.out.keep b6); clear b6 c7 c8; have c6 := X6.out.c6) | (go_at_call 42; refine (Q.out _ X6.out).mono ?_; rintro e w7 ⟨rfl, b7⟩))
  go_ret
  exact ⟨ret_bool (by rw [HG2.out, HX.out]; simp), X6.out.low.trans (b7.mono X6.out.low.size)⟩
end Go.Proofs.YtocjfjikkdpfdaaGreatDoor.LedW
