/- Good of a ledger: the program's answer. -/
import Derived.Test.YtocjfjikkdpfdaaGreatDoorLedGoodMath
import Derived.Test.YtocjfjikkdpfdaaGreatDoorLedOpen
import Derived.Deep.RegionHeld3
import Derived.Test.YtocjfjikkdpfdaaGreatDoorBaseKept
set_option linter.unusedSimpArgs false
set_option linter.unusedVariables false
namespace Go.Proofs.YtocjfjikkdpfdaaGreatDoor.LedW
open Go.RowKit Go.Proofs.YtocjfjikkdpfdaaGreatDoor.Bas Go.Proofs.YtocjfjikkdpfdaaGreatDoor.LedM Go.Proofs.YtocjfjikkdpfdaaGreatDoor.RefW

theorem insAsk_calls (x0 x1 x2 x3 x4 : Int) (x5 : Bool) (x6 : Int) (w : World) (g : Nat) (s : Lists) (l : Led) (vs : List (Value × Acc)) (W : World) (H : LedH w W g s l vs) (hn : l.unders.length ≤ 6) :
    Calls Tryz.prog 64 #[.agg #[.int .i64 x0, .int .i64 x1, .int .i64 x2, .int .i64 x3, .int .i64 x4, .bool x5, .int .i64 x6], .pointer (some ⟨g, 0, none⟩)] W fun e W' => e = .returned (.bool (!insOk l.unders.length ⟨x0, x1, x2, x3, x4, x5, x6⟩)) ∧ Below W.heap.size W W' := by
  have X := Box.new W 60 #[.int .i64 x0, .int .i64 x1, .int .i64 x2, .int .i64 x3, .int .i64 x4, .bool x5, .int .i64 x6]
  have B := (Below.refl W.heap.size W).alloc (Nat.le_refl _) (.cells #[.int .i64 x0, .int .i64 x1, .int .i64 x2, .int .i64 x3, .int .i64 x4, .bool x5, .int .i64 x6] 60)
  have H1 := (H.keep B).c2
  have C := Lib.hid (fun W => instr_calls x0 x1 x2 x3 x4 x5 x6 (l.unders.length : Nat) W (by omega))
  clear H
  go_enter Tryz.func64, Tryz.ntmps64
  go_upto_region 1 with fail
  generalize W.alloc (.cells #[.int .i64 x0, .int .i64 x1, .int .i64 x2, .int .i64 x3, .int .i64 x4, .bool x5, .int .i64 x6] 60) = w0 at *
  have c0 := X.cell 0
  have c1 := X.cell 1
  have c2 := X.cell 2
  have c3 := X.cell 3
  have c4 := X.cell 4
  have c5 := X.cell 5
  have c6 := X.cell 6
  clear X
  unfold instrV at C
  go_wp2_with (go_at_call 65; refine (C.out _).mono ?_; rintro e w2 ⟨rfl, b2⟩)
  go_ret
  exact ⟨rfl, B.trans (b2.mono B.size)⟩
theorem asks_ins (w : World) (g : Nat) (s : Lists) (l : Led) (vs : List (Value × Acc)) (hn : l.unders.length ≤ 6) : Asks Tryz.prog 64 #[.pointer (some ⟨g, 0, none⟩)] insV (fun i => !insOk l.unders.length i) l.instrs (fun W => LedH w W g s l vs) := fun x _ W h => insAsk_calls x.kind x.under x.mult x.strike x.expiry x.call x.mark w g s l vs W h hn
theorem nameAsk_calls (x0 : List UInt8) (x1 x2 x3 : Int) (g : Nat) (nm : List UInt8) (W : World) (h : W.cell? ⟨g, 0, none⟩ = some (.string ⟨nm.toArray⟩)) :
    Calls Tryz.prog 91 #[.agg #[.string ⟨x0.toArray⟩, .int .i64 x1, .int .i64 x2, .int .i64 x3], .pointer (some ⟨g, 0, none⟩)] W fun e W' => e = .returned (.bool (decide (x0 = nm))) ∧ Below W.heap.size W W' := by
  have X := Box.new W 57 #[.string ⟨x0.toArray⟩, .int .i64 x1, .int .i64 x2, .int .i64 x3]
  have B := (Below.refl W.heap.size W).alloc (Nat.le_refl _) (.cells #[.string ⟨x0.toArray⟩, .int .i64 x1, .int .i64 x2, .int .i64 x3] 57)
  have H1 := (B.cell (p := ⟨g, 0, none⟩) (World.block_lt_of_cell? W _ h)).trans h
  clear h
  go_enter Tryz.func91, Tryz.ntmps91
  go_upto_region 1 with fail
  generalize W.alloc (.cells #[.string ⟨x0.toArray⟩, .int .i64 x1, .int .i64 x2, .int .i64 x3] 57) = w0 at *
  have c0 := X.cell 0
  clear X
  go_wp2_with fail
  go_ret
  exact ⟨ret_bool (by rw [Bool.eq_iff_iff]; simp), B⟩
def NameAt (g : Nat) (nm : List UInt8) (W : World) : Prop := W.cell? ⟨g, 0, none⟩ = some (.string ⟨nm.toArray⟩)
theorem name_keeps (g : Nat) (nm : List UInt8) : Keeps (NameAt g nm) := fun A _ h b => (b.cell (World.block_lt_of_cell? A _ h)).trans h
theorem asks_named (g : Nat) (nm : List UInt8) (us : List Und) : Asks Tryz.prog 91 #[.pointer (some ⟨g, 0, none⟩)] undV (fun u => decide (u.name = nm)) us (NameAt g nm) := fun x _ W h => nameAsk_calls x.name x.cur x.price x.vol g nm W h
theorem named_calls (a : Option Addr) (cap : Nat) (us : List Und) (nm : List UInt8) (w : World) (hl : us.length ≤ 9223372036854775807) (hat : At w a (us.flatMap undC)) :
    Calls Tryz.prog 62 #[.slice a us.length cap, .string ⟨nm.toArray⟩] w fun e w' => e = .returned (.int .i64 (idxF (fun u : Und => decide (u.name = nm)) us)) ∧ Below w.heap.size w w' := by
  have X := Box.new w 9 #[.string ⟨nm.toArray⟩]
  have B := (Below.refl w.heap.size w).alloc (Nat.le_refl _) (.cells #[.string ⟨nm.toArray⟩] 9)
  have A := hat.keep B
  have C := Lib.hid (fun W h h2 => index_named a cap us w.heap.size (fun u => decide (u.name = nm)) (NameAt w.heap.size nm) W hl h h2 (name_keeps _ _) (asks_named _ nm us))
  clear hat
  go_enter Tryz.func62, Tryz.ntmps62
  go_upto_region 1 with fail
  generalize w.alloc (.cells #[.string ⟨nm.toArray⟩] 9) = w0 at *
  have HN := Lib.hid (show NameAt w.heap.size nm w0 from X.cell 0)
  clear X
  go_wp2_with (go_at_call 90; refine (C.out _ A HN.out).mono ?_; rintro e w2 ⟨rfl, b2⟩)
  go_ret
  exact ⟨rfl, B.trans (b2.mono B.size)⟩
theorem thingsF_len {l : Led} (h : ¬ (1 ≤ l.curs.length ∧ l.curs.length ≤ 4 ∧ l.unders.length ≤ 6 ∧ l.instrs.length ≤ 12)) : thingsF l = false := by unfold thingsF; rw [decide_eq_false h]; rfl
theorem thingsF_go {l : Led} (h : 1 ≤ l.curs.length ∧ l.curs.length ≤ 4 ∧ l.unders.length ≤ 6 ∧ l.instrs.length ≤ 12) : thingsF l = (allI curOk 0 l.curs && (undB l.curs.length l.unders && l.instrs.all (insOk l.unders.length))) := by unfold thingsF; rw [decide_eq_true h, Bool.true_and]
/-- an underlying's box beside the ledger's -/
structure UndH (w W : World) (g : Nat) (s : Lists) (l : Led) (vs : List (Value × Acc)) (gu : Nat) (x0 : List UInt8) (x1 x2 x3 : Int) : Prop where
  led : LedH w W g s l vs
  und : Box W gu 57 #[.string ⟨x0.toArray⟩, .int .i64 x1, .int .i64 x2, .int .i64 x3]
theorem UndH.keep {w A B : World} {g : Nat} {s : Lists} {l : Led} {vs : List (Value × Acc)} {gu : Nat} {x0 : List UInt8} {x1 x2 x3 : Int} (h : UndH w A g s l vs gu x0 x1 x2 x3) (b : Below A.heap.size A B) : UndH w B g s l vs gu x0 x1 x2 x3 := ⟨h.led.keep b, h.und.keep b⟩
theorem UndH.drew {w A : World} {g : Nat} {s : Lists} {l : Led} {vs : List (Value × Acc)} {gu : Nat} {x0 : List UInt8} {x1 x2 x3 : Int} (h : UndH w A g s l vs gu x0 x1 x2 x3) : UndH w A.drew g s l vs gu x0 x1 x2 x3 := ⟨h.led.drew, h.und⟩
section
variable {w A : World} {g : Nat} {s : Lists} {l : Led} {vs : List (Value × Acc)} {gu : Nat} {x0 : List UInt8} {x1 x2 x3 : Int}
theorem UndH.u0 (h : UndH w A g s l vs gu x0 x1 x2 x3) : A.cell? ⟨gu, 0, none⟩ = some (.string ⟨x0.toArray⟩) := h.und.cell 0
theorem UndH.u1 (h : UndH w A g s l vs gu x0 x1 x2 x3) : A.cell? ⟨gu, 1, none⟩ = some (.int .i64 x1) := h.und.cell 1
theorem UndH.u2 (h : UndH w A g s l vs gu x0 x1 x2 x3) : A.cell? ⟨gu, 2, none⟩ = some (.int .i64 x2) := h.und.cell 2
theorem UndH.u3 (h : UndH w A g s l vs gu x0 x1 x2 x3) : A.cell? ⟨gu, 3, none⟩ = some (.int .i64 x3) := h.und.cell 3
theorem und_c2 (h : UndH w A g s l vs gu x0 x1 x2 x3) {a : Option Addr} (ha : s.a2 = a) : A.cell? ⟨g, 2, none⟩ = some (.slice a l.unders.length s.c2) := ha ▸ h.led.c2
theorem und_take (h : UndH w A g s l vs gu x0 x1 x2 x3) {a : Option Addr} (ha : s.a2 = a) (j : Nat) : At A a ((l.unders.take j).flatMap undC) := by
  rw [flat_take len_und]
  exact (ha ▸ h.led.at_.unders).take _
end
set_option maxHeartbeats 4000000 in
set_option maxRecDepth 100000 in
theorem things_calls (s : Lists) (l : Led) (vs : List (Value × Acc)) (w : World) (hat : LedAt w s l vs) (hf : LedFit l) :
    Calls Tryz.prog 37 #[ledV s l] w fun e w' => e = .returned (.bool (thingsF l)) ∧ Below w.heap.size w w' := by
  unfold ledV
  have X := ledH_new w s l vs hat
  have HFit := Lib.hid hf
  have l1 := hf.len.1
  have l2 := hf.len.2.1
  have l3 := hf.len.2.2.1
  clear hat hf
  go_enter Tryz.func37, Tryz.ntmps37
  go_upto_region 1 with fail
  generalize w.alloc (.cells #[.int .i64 l.day, .slice s.a1 l.curs.length s.c1, .slice s.a2 l.unders.length s.c2, .slice s.a3 l.instrs.length s.c3, .slice s.a4 l.accts.length s.c4, .slice s.a5 l.poss.length s.c5, .slice s.a6 l.orders.length s.c6, .slice s.a7 l.avail.length s.c7, .slice s.a8 l.locs.length s.c8] 31) = w0 at X ⊢
  have c1 := X.c1
  have c2 := X.c2
  have c3 := X.c3
  by_cases hlen : 1 ≤ l.curs.length ∧ l.curs.length ≤ 4 ∧ l.unders.length ≤ 6 ∧ l.instrs.length ≤ 12
  rotate_left
  · have HP := Lib.hid (thingsF_len hlen)
    have HN := Lib.hid hlen
    clear hlen
    go_wp2_with fail
    all_goals first
      | (go_ret; exact ⟨ret_bool HP.out.symm, X.low⟩)
      | (exfalso; have := HN.out; clear c1 c2 c3; omega)
  have HP := Lib.hid (thingsF_go hlen)
  obtain ⟨n1, n2, n3, n4⟩ := hlen
  go_wp2_with fail
  clear c1 c2 c3
  go_loopw [32] (fun i wr => ∃ k : Nat, k ≤ l.curs.length ∧ i = .int .i64 (k : Int) ∧ LedH w wr w.heap.size s l vs ∧ Hid (allI curOk 0 (l.curs.take k) = true)) (fun i _ => l.curs.length - (intOf i).toNat)
  case atStart => exact ⟨0, by omega, rfl, X, rfl⟩
  case round =>
    clear X
    obtain ⟨k, hk, rfl, X, H⟩ := hrel
    by_cases hlt : k < l.curs.length
    · obtain ⟨b, off, ha, C1⟩ := rec_at len_cur (by decide) X.at_.curs hlt
      have HT := Lib.hid (fun h => allI_next hlt H.out h)
      have HF := Lib.hid (fun h => allI_bad (f := curOk) hlt h)
      have C := Lib.hid (fun W => cur_calls l.curs[k].1 l.curs[k].2 (k : Int) W)
      rw [show curF l.curs[k].1 l.curs[k].2 (k : Int) = curOk k l.curs[k] from rfl] at C
      clear H
      generalize curOk k l.curs[k] = r at HT HF C
      generalize l.curs[k] = x at *
      obtain ⟨x0, x1⟩ := x
      have c0 := C1 0 _ rfl
      have c1 := C1 1 _ rfl
      clear C1
      simp only [← Nat.add_assoc, Nat.add_zero] at c0 c1
      have e1 := X.c1
      rw [ha] at e1 ⊢
      have XH := Lib.hid X
      clear ha X
      unfold curV at C
      cases r
      · have HX := Lib.hid (HF.out rfl)
        clear HT HF
        go_wp2_with (go_at_call 60; refine (C.out _).mono ?_; rintro e w2 ⟨rfl, b2⟩)
        go_ret
        exact ⟨ret_bool (by rw [HP.out, HX.out]; rfl), (XH.out.alloc _).low.trans (b2.mono (XH.out.alloc _).low.size)⟩
      · have HX := Lib.hid (HT.out rfl)
        clear HT HF
        go_wp2_with (go_at_call 60; refine (C.out _).mono ?_; rintro e w2 ⟨rfl, b2⟩)
        go_roundw
        case rel => exact ⟨k + 1, by omega, by go_num, (XH.out.alloc _).keep b2, HX⟩
        case measure => simp [intOf]; omega
    · have HP1 : Hid (thingsF l = (undB l.curs.length l.unders && l.instrs.all (insOk l.unders.length))) := by
        obtain rfl : k = l.curs.length := by omega
        have h1 := H.out
        rw [List.take_length] at h1
        unfold Hid
        rw [HP.out, h1, Bool.true_and]
      clear H HP
      have c1 := X.c1
      have c2 := X.c2
      go_wp2_with fail
      clear c1 c2
      go_loopw [45] (fun i wr => ∃ k : Nat, k ≤ l.unders.length ∧ i = .int .i64 (k : Int) ∧ LedH w wr w.heap.size s l vs ∧ Hid (undB l.curs.length (l.unders.take k) = true)) (fun i _ => l.unders.length - (intOf i).toNat)
      case atStart => exact ⟨0, by omega, rfl, X, undB_nil _⟩
      case round =>
        clear X
        obtain ⟨j, hj, rfl, X, H⟩ := hrel
        by_cases hlt2 : j < l.unders.length
        · obtain ⟨b, off, ha, C1⟩ := rec_at len_und (by decide) X.at_.unders hlt2
          have HT := Lib.hid (fun h h2 => undB_next hlt2 H.out h h2)
          have HF := Lib.hid (fun h => undB_bad (n := l.curs.length) hlt2 h)
          have HG := Lib.hid (fun h => undB_twice (n := l.curs.length) hlt2 h)
          have hlen : l.unders[j].name.length ≤ 140737488351232 := (HFit.out.unders _ (List.getElem_mem hlt2)).1
          have C := Lib.hid (fun W => under_calls ⟨l.unders[j].name.toArray⟩ l.unders[j].cur l.unders[j].price l.unders[j].vol (l.curs.length : Nat) W (by show l.unders[j].name.toArray.size ≤ _; rw [List.size_toArray]; omega) (by omega))
          rw [show underF ⟨l.unders[j].name.toArray⟩ l.unders[j].cur l.unders[j].price l.unders[j].vol (l.curs.length : Nat) = undOk l.curs.length l.unders[j] from rfl] at C
          have HN := Lib.hid (named_iff (l.unders.take j) l.unders[j].name)
          have D := Lib.hid (fun W h => named_calls s.a2 s.c2 (l.unders.take j) l.unders[j].name W (by rw [List.length_take]; omega) h)
          clear H
          generalize undOk l.curs.length l.unders[j] = r at HT HF C
          generalize l.unders[j] = x at *
          obtain ⟨x0, x1, x2, x3⟩ := x
          have c0 := C1 0 _ rfl
          have c1 := C1 1 _ rfl
          have c2 := C1 2 _ rfl
          have c3 := C1 3 _ rfl
          clear C1
          simp only [← Nat.add_assoc, Nat.add_zero] at c0 c1 c2 c3
          have e1 := X.c2
          have HA := Lib.hid ha
          rw [ha] at e1 D ⊢
          clear ha
          go_upto_region 12 with fail
          have X0 := (UndH.mk (X.alloc _) (Box.new wr 57 #[.string ⟨x0.toArray⟩, .int .i64 x1, .int .i64 x2, .int .i64 x3])).drew
          have hcap := X.at_.caps.2.1
          clear X c0 c1 c2 c3 e1
          generalize wr.alloc (.cells #[.string ⟨x0.toArray⟩, .int .i64 x1, .int .i64 x2, .int .i64 x3] 57) = w3 at *
          have hji : 0 ≤ (j : Int) ∧ (j : Int) ≤ (s.c2 : Int) := by omega
          have D := Lib.hid (fun (W : World) (h : UndH w W w.heap.size s l vs wr.heap.size x0 x1 x2 x3) => by
            have h1 := D.out W (und_take h HA.out j)
            rw [List.length_take, Nat.min_eq_left (by omega)] at h1
            exact h1)
          have C : Hid (∀ (W : World), Calls Tryz.prog 61 #[.agg #[.string ⟨x0.toArray⟩, .int .i64 x1, .int .i64 x2, .int .i64 x3], .int .i64 (l.curs.length : Nat)] W fun e w' => e = .returned (.bool r) ∧ Below W.heap.size W w') := C.out
          simp only at HG HT HN
          generalize idxF (fun u : Und => decide (u.name = x0)) (l.unders.take j) = q at HN D
          cases r
          · have HX := Lib.hid (HF.out rfl)
            clear HT HF HG D HN
            have X00 := X0
            refine kept_region (fun W => W.cell? ⟨w.heap.size, 1, none⟩ = some (.slice s.a1 l.curs.length s.c1) ∧ W.cell? ⟨w.heap.size, 2, none⟩ = some (.slice (some ⟨b, off, none⟩) l.unders.length s.c2) ∧ W.cell? ⟨wr.heap.size, 0, none⟩ = some (.string ⟨x0.toArray⟩) ∧ W.cell? ⟨wr.heap.size, 1, none⟩ = some (.int .i64 x1) ∧ W.cell? ⟨wr.heap.size, 2, none⟩ = some (.int .i64 x2) ∧ W.cell? ⟨wr.heap.size, 3, none⟩ = some (.int .i64 x3) ∧ UndH w W w.heap.size s l vs wr.heap.size x0 x1 x2 x3) (by kernel_rfl) (by kernel_rfl) ⟨X00.led.c1, und_c2 X00 HA.out, X00.u0, X00.u1, X00.u2, X00.u3, X00⟩ ?_
            clear X00 X0
            repeat first
              | (refine' kept_go _ _ (fun W hW => _) _; rotate_left; (focus (go_simp; done)); (refine ⟨?_⟩; obtain ⟨k1, k2, k3, k4, k5, k6, X9⟩ := hW; go_simp; first | done | (with_reducible rfl) | (go_at_call 61; refine (C.out _).mono ?_; rintro e w2 ⟨rfl, bb⟩; have Y := X9.keep bb; refine And.intro ?_ ⟨Y.led.c1, und_c2 Y HA.out, Y.u0, Y.u1, Y.u2, Y.u3, Y⟩; with_reducible rfl)); simp only [Act.put, List.setIfInBounds_toArray, List.set_cons_zero, List.set_cons_succ])
              | (refine kept_skip ?_ ?_; (focus (go_simp; done)); simp only [Act.put, List.setIfInBounds_toArray, List.set_cons_zero, List.set_cons_succ])
            refine kept_end ?_
            rintro w4 ⟨k1, k2, k3, k4, k5, k6, X9⟩
            go_wp2_with fail
            go_ret
            exact ⟨ret_bool (by rw [HP1.out, HX.out]; rfl), X9.led.low⟩
          · have hd := HN.out
            have HT1 := Lib.hid (HT.out rfl)
            clear HF HT HN
            by_cases hq : 0 ≤ q
            · rw [decide_eq_true hq] at hd
              have HX := Lib.hid (HG.out (of_decide_eq_true hd.symm))
              clear hd HG HT1
              have X00 := X0
              refine kept_region (fun W => W.cell? ⟨w.heap.size, 1, none⟩ = some (.slice s.a1 l.curs.length s.c1) ∧ W.cell? ⟨w.heap.size, 2, none⟩ = some (.slice (some ⟨b, off, none⟩) l.unders.length s.c2) ∧ W.cell? ⟨wr.heap.size, 0, none⟩ = some (.string ⟨x0.toArray⟩) ∧ W.cell? ⟨wr.heap.size, 1, none⟩ = some (.int .i64 x1) ∧ W.cell? ⟨wr.heap.size, 2, none⟩ = some (.int .i64 x2) ∧ W.cell? ⟨wr.heap.size, 3, none⟩ = some (.int .i64 x3) ∧ UndH w W w.heap.size s l vs wr.heap.size x0 x1 x2 x3) (by kernel_rfl) (by kernel_rfl) ⟨X00.led.c1, und_c2 X00 HA.out, X00.u0, X00.u1, X00.u2, X00.u3, X00⟩ ?_
              clear X00 X0
              repeat first
                | (refine' kept_go _ _ (fun W hW => _) _; rotate_left; (focus (go_simp; done)); (refine ⟨?_⟩; obtain ⟨k1, k2, k3, k4, k5, k6, X9⟩ := hW; go_simp; first | done | (with_reducible rfl) | (go_at_call 61; refine (C.out _).mono ?_; rintro e w2 ⟨rfl, bb⟩; have Y := X9.keep bb; refine And.intro ?_ ⟨Y.led.c1, und_c2 Y HA.out, Y.u0, Y.u1, Y.u2, Y.u3, Y⟩; with_reducible rfl) | (go_at_call 62; refine (D.out _ X9).mono ?_; rintro e w2 ⟨rfl, bb⟩; have Y := X9.keep bb; refine And.intro ?_ ⟨Y.led.c1, und_c2 Y HA.out, Y.u0, Y.u1, Y.u2, Y.u3, Y⟩; with_reducible rfl)); simp only [Act.put, List.setIfInBounds_toArray, List.set_cons_zero, List.set_cons_succ])
                | (refine kept_skip ?_ ?_; (focus (go_simp; done)); simp only [Act.put, List.setIfInBounds_toArray, List.set_cons_zero, List.set_cons_succ])
              refine kept_end ?_
              rintro w4 ⟨k1, k2, k3, k4, k5, k6, X9⟩
              go_wp2_with fail
              go_ret
              exact ⟨ret_bool (by rw [HP1.out, HX.out]; rfl), X9.led.low⟩
            · rw [decide_eq_false hq] at hd
              have HX := Lib.hid (HT1.out (of_decide_eq_false hd.symm))
              clear hd HG HT1
              have X00 := X0
              refine kept_region (fun W => W.cell? ⟨w.heap.size, 1, none⟩ = some (.slice s.a1 l.curs.length s.c1) ∧ W.cell? ⟨w.heap.size, 2, none⟩ = some (.slice (some ⟨b, off, none⟩) l.unders.length s.c2) ∧ W.cell? ⟨wr.heap.size, 0, none⟩ = some (.string ⟨x0.toArray⟩) ∧ W.cell? ⟨wr.heap.size, 1, none⟩ = some (.int .i64 x1) ∧ W.cell? ⟨wr.heap.size, 2, none⟩ = some (.int .i64 x2) ∧ W.cell? ⟨wr.heap.size, 3, none⟩ = some (.int .i64 x3) ∧ UndH w W w.heap.size s l vs wr.heap.size x0 x1 x2 x3) (by kernel_rfl) (by kernel_rfl) ⟨X00.led.c1, und_c2 X00 HA.out, X00.u0, X00.u1, X00.u2, X00.u3, X00⟩ ?_
              clear X00 X0
              repeat first
                | (refine' kept_go _ _ (fun W hW => _) _; rotate_left; (focus (go_simp; done)); (refine ⟨?_⟩; obtain ⟨k1, k2, k3, k4, k5, k6, X9⟩ := hW; go_simp; first | done | (with_reducible rfl) | (go_at_call 61; refine (C.out _).mono ?_; rintro e w2 ⟨rfl, bb⟩; have Y := X9.keep bb; refine And.intro ?_ ⟨Y.led.c1, und_c2 Y HA.out, Y.u0, Y.u1, Y.u2, Y.u3, Y⟩; with_reducible rfl) | (go_at_call 62; refine (D.out _ X9).mono ?_; rintro e w2 ⟨rfl, bb⟩; have Y := X9.keep bb; refine And.intro ?_ ⟨Y.led.c1, und_c2 Y HA.out, Y.u0, Y.u1, Y.u2, Y.u3, Y⟩; with_reducible rfl)); simp only [Act.put, List.setIfInBounds_toArray, List.set_cons_zero, List.set_cons_succ])
                | (refine kept_skip ?_ ?_; (focus (go_simp; done)); simp only [Act.put, List.setIfInBounds_toArray, List.set_cons_zero, List.set_cons_succ])
              refine kept_end ?_
              rintro w4 ⟨k1, k2, k3, k4, k5, k6, X9⟩
              go_wp2_with fail
              go_roundw
              case rel => exact ⟨j + 1, by omega, by go_num, X9.led, HX⟩
              case measure => simp [intOf]; omega
        · have HP2 : Hid (thingsF l = l.instrs.all (insOk l.unders.length)) := by
            obtain rfl : j = l.unders.length := by omega
            have h1 := H.out
            rw [List.take_length] at h1
            unfold Hid
            rw [HP1.out, h1, Bool.true_and]
          clear H HP1
          have c3 := X.c3
          have C := Lib.hid (fun W (h : LedH w W w.heap.size s l vs) => contains_instrs s.a3 s.c3 l.instrs w.heap.size _ _ W (by omega) h.at_.instrs h (ledH_keeps w w.heap.size s l vs) (asks_ins w w.heap.size s l vs n3))
          have HX := Lib.hid (any_not (insOk l.unders.length) l.instrs)
          generalize (l.instrs.any fun i => !insOk l.unders.length i) = r at C HX
          have XH := Lib.hid X
          clear X
          go_wp2_with (go_at_call 63; refine (C.out _ XH.out).mono ?_; rintro e w2 ⟨rfl, b2⟩)
          go_ret
          exact ⟨ret_bool (by rw [HP2.out, HX.out, Bool.not_not]), XH.out.low.trans (b2.mono XH.out.low.size)⟩
theorem fitsAsk_calls (x : Int) (W : World) (h : FixpW.I64 x) :
    Calls Tryz.prog 69 #[.int .i64 x] W fun e W' => e = .returned (.bool (!FixpM.fits x)) ∧ Below W.heap.size W W' := by
  have C := Lib.hid (FixpW.fits_calls x W h)
  clear h
  go_enter Tryz.func69, Tryz.ntmps69
  go_wp2_with (go_at_call 70; refine C.out.mono ?_; rintro e w2 ⟨rfl, rfl⟩)
  go_ret
  exact ⟨rfl, Below.refl _ _⟩
theorem asks_cash (xs : List Int) (h : ∀ x ∈ xs, FixpW.I64 x) : Asks Tryz.prog 69 #[] intV (fun x => !FixpM.fits x) xs (fun _ => True) := fun x hx W _ => fitsAsk_calls x W (h x hx)
/-- an account's cash is a slice -/
def CashForm (x : Value × Acc) : Prop := ∃ a c, x.1 = .slice a x.2.cash.length c
theorem CashAt.form {W : World} {x : Value × Acc} (h : CashAt W x) : CashForm x := by
  obtain ⟨a, c, h1, _⟩ := h
  exact ⟨a, c, h1⟩
def parentsOf (vs : List (Value × Acc)) : List Int := vs.map fun x => x.2.parent
set_option maxHeartbeats 1000000 in
theorem parents_calls (a : Option Addr) (cap : Nat) (vs : List (Value × Acc)) (w : World) (hbig : vs.length ≤ 1000000) (hc : At w a (vs.flatMap accC)) (hv : ∀ x ∈ vs, CashForm x) :
    Calls Tryz.prog 67 #[.slice a vs.length cap] w fun e w' => ∃ s, e = .returned s ∧ w'.ownsRow w.heap.size 3 1 s vs.length (i64s (parentsOf vs)) ∧ Below w.heap.size w w' := by
  have HC := Lib.hid hc
  have HV := Lib.hid hv
  clear hc hv
  go_enter Tryz.func67, Tryz.ntmps67
  go_wp2_with fail
  go_loopw [3, 8] (fun o i wr => ∃ k : Nat, k ≤ vs.length ∧ i = .int .i64 k ∧ wr.ownsRow w.heap.size 3 1 o k (i64s (parentsOf (vs.take k))) ∧ Below w.heap.size w wr) (fun _ i _ => vs.length - (intOf i).toNat)
  case atStart => exact ⟨0, by omega, rfl, World.ownsRow_nil _ _ _ _, Below.refl _ _⟩
  case round =>
    obtain ⟨k, hk, rfl, own, hB⟩ := hrel
    obtain ⟨ao, co, rfl, _, _, _, _, _⟩ := at_of_owns own
    have hz := hB.size
    by_cases hlt : k < vs.length
    · have hcr := HC.out.keep hB
      obtain ⟨b, off, rfl, C1⟩ := rec_at len_acc (by decide) hcr hlt
      have hs : Hid (i64s (parentsOf (vs.take (k + 1))) = i64s (parentsOf (vs.take k)) ++ [.int .i64 vs[k].2.parent]) := by
        unfold Hid i64s parentsOf
        rw [List.take_succ_eq_append_getElem hlt, List.map_append, List.map_append]; rfl
      obtain ⟨ca, cc, hxv⟩ := HV.out _ (List.getElem_mem hlt)
      clear hcr
      generalize vs[k] = x at *
      obtain ⟨xv, x0, x1, x2, x3⟩ := x
      simp only at hxv
      subst hxv
      have c0 := C1 0 _ rfl
      have c1 := C1 1 _ rfl
      have c2 := C1 2 _ rfl
      have c3 := C1 3 _ rfl
      clear C1
      simp only [← Nat.add_assoc, Nat.add_zero] at c0 c1 c2 c3
      have HOwn := Lib.hid own
      clear own
      go_wp2_with (first | (at_builtin; refine wpList_append_at _ rfl (.tmp 12) (.tmp 15) elem_int rfl w.heap.size _ k (i64s (parentsOf (vs.take k))) rfl ((HOwn.out.alloc _).alloc _) (some ⟨wr.heap.size + 1, 0, none⟩) 1 1 [.int .i64 x0] rfl rfl (by have := at_alloc (wr.alloc (.cells #[.int .i64 x0, .slice ca x1.length cc, .bool x2, .int .i64 x3] 46)) #[.int .i64 x0] 3 (0, 0); simpa using this) (by simp [Value.oneCell']) (by unfold maxLen; omega) (by omega) (by simp; omega) ?_; intro v2 w3 own2 bel2 g2 ob2; have hB3 := ((hB.alloc hz _).alloc (by simp; omega) _).trans bel2))
      go_roundw
      case rel => exact ⟨k + 1, by omega, by go_num, by rw [hs.out]; exact own2, hB3⟩
      case measure => simp [intOf]; omega
    · have hkk : k = vs.length := by omega
      subst hkk
      rw [List.take_length] at own
      go_wp2_with fail
      go_ret
      exact ⟨_, rfl, own, hB⟩
end Go.Proofs.YtocjfjikkdpfdaaGreatDoor.LedW
