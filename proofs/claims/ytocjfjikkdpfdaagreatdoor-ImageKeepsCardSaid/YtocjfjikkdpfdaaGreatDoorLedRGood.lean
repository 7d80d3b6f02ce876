/- Good of a ledger: the document's answer. Written by genrgood.py. -/
import Derived.Test.YtocjfjikkdpfdaaGreatDoorLedRLoc
import Derived.Test.YtocjfjikkdpfdaaGreatDoorLedGoodAll
import Derived.Test.YtocjfjikkdpfdaaGreatDoorFixpDoc
import Derived.Test.YtocjfjikkdpfdaaGreatDoorBaseApp
set_option linter.unusedSimpArgs false
set_option linter.unusedVariables false
namespace Go.Proofs.YtocjfjikkdpfdaaGreatDoor.LedW
open Go.RowKit Go.Proofs.YtocjfjikkdpfdaaGreatDoor.Bas Go.Proofs.YtocjfjikkdpfdaaGreatDoor.LedM Go.Proofs.YtocjfjikkdpfdaaGreatDoor.RefW

theorem led_parents {W : World} {s : Lists} {l : Led} {vs : List (Value × Acc)} (h : LedAt W s l vs) : parentsOf vs = parents l := by
  unfold parentsOf parents
  rw [← h.each, List.map_map]
  rfl
set_option maxHeartbeats 2000000 in
set_option maxRecDepth 100000 in
theorem rparents_calls (s : Lists) (l : Led) (vs : List (Value × Acc)) (w : World) (hat : LedAt w s l vs) (hf : LedFit l) :
    Calls Tryz.prog 54 #[ledV s l] w fun e w' => ∃ a c, e = .returned (.slice a l.accts.length c) ∧ At w' a (i64s (parents l)) ∧ Below w.heap.size w w' := by
  unfold ledV
  have X := ledH_new w s l vs hat
  have l4 := hf.len.2.2.2.1
  have HLen := Lib.hid (LedAt.len hat)
  have HPar := Lib.hid (led_parents hat)
  have hatK := Lib.hid hat
  clear hat hf
  go_enter Tryz.func54, Tryz.ntmps54
  go_upto_region 2 with fail
  generalize w.alloc (.cells #[.int .i64 l.day, .slice s.a1 l.curs.length s.c1, .slice s.a2 l.unders.length s.c2, .slice s.a3 l.instrs.length s.c3, .slice s.a4 l.accts.length s.c4, .slice s.a5 l.poss.length s.c5, .slice s.a6 l.orders.length s.c6, .slice s.a7 l.avail.length s.c7, .slice s.a8 l.locs.length s.c8] 31) = w0 at X ⊢
  have c4 := X.c4
  have XH := Lib.hid X
  clear X
  go_wp2_with fail
  clear c4
  go_loopw [3, 9] (fun o i wr => ∃ k : Nat, k ≤ vs.length ∧ i = .int .i64 k ∧ wr.ownsRow w.heap.size 3 1 o k (i64s (parentsOf (vs.take k))) ∧ LedH w wr w.heap.size s l vs) (fun _ i _ => vs.length - (intOf i).toNat)
  case atStart => exact ⟨0, by omega, rfl, World.ownsRow_nil _ _ _ _, XH.out⟩
  case round =>
    clear XH
    obtain ⟨k, hk, rfl, own, X⟩ := hrel
    obtain ⟨ao, co, rfl, _, _, hato, _, _⟩ := at_of_owns own
    have hz := X.low.size
    by_cases hlt : k < vs.length
    · have hll : k < l.accts.length := by rw [← HLen.out]; exact hlt
      obtain ⟨b, off, ha, C1⟩ := rec_at len_acc (by decide) X.at_.accts hlt
      have hs : Hid (i64s (parentsOf (vs.take (k + 1))) = i64s (parentsOf (vs.take k)) ++ [.int .i64 vs[k].2.parent]) := by
        unfold Hid i64s parentsOf
        rw [List.take_succ_eq_append_getElem hlt, List.map_append, List.map_append]; rfl
      obtain ⟨ca, cc, hxv, _, _⟩ := X.at_.cash _ (List.getElem_mem hlt)
      generalize vs[k] = x at *
      obtain ⟨xv, x0, x1, x2, x3⟩ := x
      simp only at hxv
      subst hxv
      have c0 := C1 0 _ rfl
      have c1 := C1 1 _ rfl
      have c2 := C1 2 _ rfl
      have c3 := C1 3 _ rfl
      clear C1 hato
      simp only [← Nat.add_assoc, Nat.add_zero] at c0 c1 c2 c3
      have e4 := X.c4
      rw [ha] at e4 ⊢
      clear ha
      have HOwn := Lib.hid own
      have XH := Lib.hid X
      clear own X
      go_upto_region 5 with fail
      have BA := Lib.hid (Box.new wr 46 #[.int .i64 x0, .slice ca x1.length cc, .bool x2, .int .i64 x3])
      have HO3 := Lib.hid (HOwn.out.alloc (.cells #[.int .i64 x0, .slice ca x1.length cc, .bool x2, .int .i64 x3] 46))
      have X3 := Lib.hid (XH.out.alloc (.cells #[.int .i64 x0, .slice ca x1.length cc, .bool x2, .int .i64 x3] 46))
      have hz3 : w.heap.size ≤ (wr.alloc (.cells #[.int .i64 x0, .slice ca x1.length cc, .bool x2, .int .i64 x3] 46)).heap.size := by rw [World.size_alloc]; omega
      clear c0 c1 c2 c3 e4 HOwn XH
      generalize wr.alloc (.cells #[.int .i64 x0, .slice ca x1.length cc, .bool x2, .int .i64 x3] 46) = w4 at *
      have d0 : w4.cell? ⟨wr.heap.size, 0, none⟩ = some (.int .i64 x0) := BA.out.cell 0
      have hnew := Lib.hid (at_alloc w4 #[.int .i64 x0] 3 (0, 0))
      have HO4 := Lib.hid (HO3.out.alloc (.cells #[.int .i64 x0] 3))
      go_wp2_with (first | (at_builtin; refine wpList_append_at _ rfl (.tmp 13) (.tmp 16) elem_int rfl w.heap.size (.slice ao k co) k (i64s (parentsOf (vs.take k))) rfl HO4.out (some ⟨w4.heap.size, 0, none⟩) 1 1 [.int .i64 x0] rfl rfl hnew.out (by simp [Value.oneCell']) (by unfold maxLen; omega) (by omega) (by rw [World.size_alloc]; omega) ?_; intro v2 w3 own2 bel2 g2 ob2))
      have XB := box_grown (X3.out.alloc (.cells #[.int .i64 x0] 3)).box HO4.out (by decide) g2
      have XL := (X3.out.alloc (.cells #[.int .i64 x0] 3)).low.trans bel2
      have XA : LedAt w3 s l vs := hatK.out.keep XL
      have XF := LedH.mk XB XA XL
      clear XB XL XA bel2 g2 ob2 d0
      go_roundw
      case rel => exact ⟨k + 1, by omega, by go_num, by rw [hs.out]; exact own2, XF⟩
      case measure => simp [intOf]; omega
    · have hkk : k = vs.length := by omega
      subst hkk
      rw [List.take_length, HPar.out] at hato
      have hh := Lib.hid hato
      have e := HLen.out
      clear own hato
      go_wp2_with fail
      go_ret
      exact ⟨ao, co, by rw [e]; rfl, hh.out, X.low⟩
/-- a record's box beside the ledger's -/
structure RecH (w W : World) (s : Lists) (l : Led) (vs : List (Value × Acc)) (g : Nat) (t : TypeId) (cs : Array Value) : Prop where
  led : LedH w W w.heap.size s l vs
  rec_ : Box W g t cs
section
variable {w A B : World} {s : Lists} {l : Led} {vs : List (Value × Acc)} {g : Nat} {t : TypeId} {cs : Array Value}
theorem RecH.keep (h : RecH w A s l vs g t cs) (b : Below A.heap.size A B) : RecH w B s l vs g t cs := ⟨h.led.keep b, h.rec_.keep b⟩
theorem RecH.drew (h : RecH w A s l vs g t cs) : RecH w A.drew s l vs g t cs := h.keep (Below.refl _ _).drew
theorem RecH.new (h : LedH w A w.heap.size s l vs) (t : TypeId) (cs : Array Value) : RecH w (A.alloc (.cells cs t)) s l vs A.heap.size t cs := ⟨h.alloc _, Box.new _ _ _⟩
end
theorem led_rec {α : Type} {f : α → List Value} {n : Nat} (hf : ∀ x, (f x).length = n) (hn : 0 < n) {W : World} {a : Option Addr} {xs : List α} (h : At W a (xs.flatMap f)) {b off : Nat} (ha : a = some ⟨b, off, none⟩) {k : Nat} (hk : k < xs.length) {x : α} (hx : xs[k] = x) (c : Nat) (u : Value) (hu : (f x)[c]? = some u) : W.cell? ⟨b, off + k * n + c, none⟩ = some u := by
  obtain ⟨b', off', h1, h2⟩ := rec_at hf hn h hk
  rw [ha] at h1
  cases h1
  rw [Nat.add_assoc]
  rw [hx] at h2
  exact h2 c u hu
theorem name_next {us : List Und} {k : Nat} (hk : k < us.length) {nm : List UInt8} (h : nm ∉ (us.take k).map Und.name) (h2 : us[k].name ≠ nm) : nm ∉ (us.take (k + 1)).map Und.name := by
  rw [List.take_succ_eq_append_getElem hk, List.map_append, List.mem_append]
  rintro (h3 | h3)
  · exact h h3
  · simp at h3
    exact h2 h3.symm
theorem name_in {us : List Und} {k j : Nat} (hk : k < j) (hj : j ≤ us.length) : (us[k]'(by omega)).name ∈ (us.take j).map Und.name := by
  refine List.mem_map_of_mem ?_
  rw [List.mem_take_iff_getElem]
  exact ⟨k, by omega, rfl⟩
theorem last_at {l : Led} {v : Int} {k : Nat} (hv : v = k) (hk : k < l.accts.length) : lastOf l.accts v = (l.accts[k]).last := by
  subst hv
  unfold lastOf
  rw [Int.toNat_natCast, List.getElem?_eq_getElem hk]
  rfl
set_option maxHeartbeats 8000000 in
set_option maxRecDepth 100000 in
theorem rgood_calls (s : Lists) (l : Led) (vs : List (Value × Acc)) (w : World) (hat : LedAt w s l vs) (hf : LedFit l) :
    Calls Tryz.prog 29 #[ledV s l] w fun e w' => e = .returned (.bool (goodF l)) ∧ Below w.heap.size w w' := by
  have X := ledH_new w s l vs hat
  unfold ledV
  obtain ⟨l1, l2, l3, l4, l5, l6, l7, l8⟩ := hf.len
  have HFit := Lib.hid hf
  have HAt := Lib.hid hat
  have HLen := Lib.hid (LedAt.len hat)
  have HG : Hid (goodF l = (decide (0 ≤ l.day ∧ l.day ≤ 100000) && (thingsF l && (accountsF l && (possF l.poss l.accts.length l.instrs.length && (ordersF l.orders l.accts.length l.instrs.length && (locsF l.avail l.locs l.accts.length l.instrs.length && l.orders.all (idOk l)))))))) := rfl
  clear hat hf
  generalize goodF l = q at HG ⊢
  go_enter Tryz.func29, Tryz.ntmps29
  go_upto_region 1 with fail
  generalize w.alloc (.cells #[.int .i64 l.day, .slice s.a1 l.curs.length s.c1, .slice s.a2 l.unders.length s.c2, .slice s.a3 l.instrs.length s.c3, .slice s.a4 l.accts.length s.c4, .slice s.a5 l.poss.length s.c5, .slice s.a6 l.orders.length s.c6, .slice s.a7 l.avail.length s.c7, .slice s.a8 l.locs.length s.c8] 31) = w0 at X ⊢
  have XH := Lib.hid X
  clear X
  have c0 := XH.out.c0; have c1 := XH.out.c1; have c2 := XH.out.c2; have c3 := XH.out.c3
  by_cases hb0 : l.day < 0
  · have HX : Hid (q = false) := by unfold Hid; rw [HG.out]; rw [decide_eq_false (show ¬ (0 ≤ l.day ∧ l.day ≤ 100000) by omega)]; rfl
    clear HG
    go_wp2_with fail
    go_ret
    exact ⟨ret_bool HX.out.symm, XH.out.low⟩
  by_cases hb1 : 100000 < l.day
  · have HX : Hid (q = false) := by unfold Hid; rw [HG.out]; rw [decide_eq_false (show ¬ (0 ≤ l.day ∧ l.day ≤ 100000) by omega)]; rfl
    clear HG
    go_wp2_with fail
    go_ret
    exact ⟨ret_bool HX.out.symm, XH.out.low⟩
  by_cases hb2 : l.curs.length < 1
  · have HX : Hid (q = false) := by unfold Hid; rw [HG.out]; rw [thingsF_len (by omega)]; simp
    clear HG
    go_wp2_with fail
    go_ret
    exact ⟨ret_bool HX.out.symm, XH.out.low⟩
  by_cases hb3 : 4 < l.curs.length
  · have HX : Hid (q = false) := by unfold Hid; rw [HG.out]; rw [thingsF_len (by omega)]; simp
    clear HG
    go_wp2_with fail
    go_ret
    exact ⟨ret_bool HX.out.symm, XH.out.low⟩
  by_cases hb4 : 6 < l.unders.length
  · have HX : Hid (q = false) := by unfold Hid; rw [HG.out]; rw [thingsF_len (by omega)]; simp
    clear HG
    go_wp2_with fail
    go_ret
    exact ⟨ret_bool HX.out.symm, XH.out.low⟩
  by_cases hb5 : 12 < l.instrs.length
  · have HX : Hid (q = false) := by unfold Hid; rw [HG.out]; rw [thingsF_len (by omega)]; simp
    clear HG
    go_wp2_with fail
    go_ret
    exact ⟨ret_bool HX.out.symm, XH.out.low⟩
  have HG1 : Hid (q = (allI curOk 0 l.curs && (undB l.curs.length l.unders && l.instrs.all (insOk l.unders.length)) && (accountsF l && (possF l.poss l.accts.length l.instrs.length && (ordersF l.orders l.accts.length l.instrs.length && (locsF l.avail l.locs l.accts.length l.instrs.length && l.orders.all (idOk l))))))) := by
    unfold Hid
    rw [HG.out, decide_eq_true (show 0 ≤ l.day ∧ l.day ≤ 100000 by omega), thingsF_go (by omega), Bool.true_and]
  clear HG
  go_wp2_with fail
  clear c0 c1 c2 c3
  go_loopw [55] (fun i wr => ∃ k : Nat, k ≤ l.curs.length ∧ i = .int .i64 (k : Int) ∧ LedH w wr w.heap.size s l vs ∧ Hid (allI curOk 0 (l.curs.take k) = true)) (fun i _ => l.curs.length - (intOf i).toNat)
  case atStart => exact ⟨0, by omega, rfl, XH.out, rfl⟩
  case round =>
    clear XH
    obtain ⟨k, hk, rfl, X, H⟩ := hrel
    by_cases hlt : k < l.curs.length
    · obtain ⟨b, off, ha, C1⟩ := rec_at len_cur (by decide) X.at_.curs hlt
      have HT := Lib.hid (fun h => allI_next hlt H.out h)
      have HF := Lib.hid (fun h => allI_bad (f := curOk) hlt h)
      have C := Lib.hid (fun W => rcur_calls l.curs[k].1 l.curs[k].2 (k : Int) W)
      rw [show curF l.curs[k].1 l.curs[k].2 (k : Int) = curOk k l.curs[k] from rfl] at C
      clear H
      generalize curOk k l.curs[k] = r at HT HF C
      generalize l.curs[k] = x at *
      obtain ⟨x0, x1⟩ := x
      have c0 := C1 0 _ rfl
      have c1 := C1 1 _ rfl
      clear C1
      simp only [← Nat.add_assoc, Nat.add_zero] at c0 c1
      rw [ha]
      have XH := Lib.hid X
      clear ha X
      unfold curV at C
      cases r
      · have HX := Lib.hid (HF.out rfl)
        clear HT HF
        go_wp2_with (go_at_call 50; refine (C.out _).mono ?_; rintro e w2 ⟨rfl, b2⟩)
        go_ret
        exact ⟨ret_bool (by rw [HG1.out, HX.out]; rfl), (XH.out.alloc _).low.trans (b2.mono (XH.out.alloc _).low.size)⟩
      · have HX := Lib.hid (HT.out rfl)
        clear HT HF
        go_wp2_with (go_at_call 50; refine (C.out _).mono ?_; rintro e w2 ⟨rfl, b2⟩)
        go_roundw
        case rel => exact ⟨k + 1, by omega, by go_num, (XH.out.alloc _).keep b2, HX⟩
        case measure => simp [intOf]; omega
    · have HG2 : Hid (q = ((undB l.curs.length l.unders && l.instrs.all (insOk l.unders.length)) && (accountsF l && (possF l.poss l.accts.length l.instrs.length && (ordersF l.orders l.accts.length l.instrs.length && (locsF l.avail l.locs l.accts.length l.instrs.length && l.orders.all (idOk l))))))) := by
        obtain rfl : k = l.curs.length := by omega
        have h1 := H.out
        rw [List.take_length] at h1
        unfold Hid
        rw [HG1.out, h1, Bool.true_and]
      clear H HG1
      have c2 := X.c2
      have XH := Lib.hid X
      clear X
      go_wp2_with fail
      clear c2
      go_loopw [68] (fun i wr => ∃ j : Nat, j ≤ l.unders.length ∧ i = .int .i64 (j : Int) ∧ LedH w wr w.heap.size s l vs ∧ Hid (undB l.curs.length (l.unders.take j) = true)) (fun i _ => l.unders.length - (intOf i).toNat)
      case atStart => exact ⟨0, by omega, rfl, XH.out, undB_nil _⟩
      case round =>
        clear XH
        obtain ⟨j, hj, rfl, X, H⟩ := hrel
        by_cases hlt2 : j < l.unders.length
        · obtain ⟨b, off, ha, C1⟩ := rec_at len_und (by decide) X.at_.unders hlt2
          have HT := Lib.hid (fun h h2 => undB_next hlt2 H.out h h2)
          have HF := Lib.hid (fun h => undB_bad (n := l.curs.length) hlt2 h)
          have HTw := Lib.hid (fun h => undB_twice (n := l.curs.length) hlt2 h)
          have hlen : l.unders[j].name.length ≤ 140737488351232 := (HFit.out.unders _ (List.getElem_mem hlt2)).1
          have C := Lib.hid (fun W => runder_calls ⟨l.unders[j].name.toArray⟩ l.unders[j].cur l.unders[j].price l.unders[j].vol (l.curs.length : Nat) W (by show l.unders[j].name.toArray.size ≤ _; rw [List.size_toArray]; omega))
          rw [show underF ⟨l.unders[j].name.toArray⟩ l.unders[j].cur l.unders[j].price l.unders[j].vol (l.curs.length : Nat) = undOk l.curs.length l.unders[j] from rfl] at C
          clear H hlen
          generalize undOk l.curs.length l.unders[j] = r at HT HF C
          generalize l.unders[j] = x at *
          obtain ⟨x0, x1, x2, x3⟩ := x
          have c0 := C1 0 _ rfl
          have c1 := C1 1 _ rfl
          have c2 := C1 2 _ rfl
          have c3 := C1 3 _ rfl
          clear C1
          simp only [← Nat.add_assoc, Nat.add_zero] at c0 c1 c2 c3
          have HA := Lib.hid ha
          rw [ha]
          clear ha
          go_upto_region 12 with fail
          have X0 := Lib.hid (RecH.new X 57 #[.string ⟨x0.toArray⟩, .int .i64 x1, .int .i64 x2, .int .i64 x3])
          clear X c0 c1 c2 c3
          generalize wr.alloc (.cells #[.string ⟨x0.toArray⟩, .int .i64 x1, .int .i64 x2, .int .i64 x3] 57) = w3 at *
          obtain ⟨gu, hgu⟩ : ∃ g, g = wr.heap.size := ⟨_, rfl⟩
          rw [← hgu] at X0 ⊢
          clear hgu
          have c1 := X0.out.led.c1
          have u0 : w3.cell? ⟨gu, 0, none⟩ = some (.string ⟨x0.toArray⟩) := X0.out.rec_.cell 0
          have u1 : w3.cell? ⟨gu, 1, none⟩ = some (.int .i64 x1) := X0.out.rec_.cell 1
          have u2 : w3.cell? ⟨gu, 2, none⟩ = some (.int .i64 x2) := X0.out.rec_.cell 2
          have u3 : w3.cell? ⟨gu, 3, none⟩ = some (.int .i64 x3) := X0.out.rec_.cell 3
          have C : Hid (∀ (W : World), Calls Tryz.prog 51 #[.agg #[.string ⟨x0.toArray⟩, .int .i64 x1, .int .i64 x2, .int .i64 x3], .int .i64 (l.curs.length : Nat)] W fun e W' => e = .returned (.bool r) ∧ Below W.heap.size W W') := C.out
          simp only at HTw HT
          cases r
          · have HX := Lib.hid (HF.out rfl)
            clear HT HF HTw
            go_wp2_with (go_at_call 51; refine (C.out _).mono ?_; rintro e w4 ⟨rfl, b4⟩)
            go_ret
            exact ⟨ret_bool (by rw [HG2.out, HX.out]; rfl), X0.out.led.low.trans (b4.mono X0.out.led.low.size)⟩
          · have HT1 := Lib.hid (HT.out rfl)
            clear HT HF
            go_wp2_with (go_at_call 51; refine (C.out _).mono ?_; rintro e w4 ⟨rfl, b4⟩)
            have X4 := Lib.hid (X0.out.keep b4)
            clear c1 u0 u1 u2 u3 X0 b4 C
            go_loopw [7] (fun i wr => ∃ k : Nat, k ≤ j ∧ i = .int .i64 (k : Int) ∧ RecH w wr s l vs gu 57 #[.string ⟨x0.toArray⟩, .int .i64 x1, .int .i64 x2, .int .i64 x3] ∧ Hid (x0 ∉ (l.unders.take k).map Und.name)) (fun i _ => j - (intOf i).toNat)
            case atStart => exact ⟨0, by omega, rfl, X4.out, by simp [Hid]⟩
            case round =>
              clear X4
              obtain ⟨k, hk, rfl, X, HN⟩ := hrel
              by_cases hlt3 : k < j
              · have hku : k < l.unders.length := by omega
                have HNN := Lib.hid (fun h => name_next hku HN.out h)
                have HIn := Lib.hid (name_in hlt3 (Nat.le_of_lt hlt2))
                obtain ⟨y, hy⟩ : ∃ y, l.unders[k] = y := ⟨_, rfl⟩
                rw [hy] at HNN HIn
                obtain ⟨y0, y1, y2, y3⟩ := y
                have HK := Lib.hid hy
                clear hy HN
                have XH := Lib.hid X
                clear X
                go_upto_region 17 with fail
                by_cases hn : y0 = x0
                · have hnb : (y0 == x0) = true := by simpa using hn
                  have HX := Lib.hid (HTw.out (by rw [← hn]; exact HIn.out))
                  clear HTw HNN HIn hn HT1
                  have X00 := XH.out.drew
                  refine kept_region (fun W => W.cell? ⟨w.heap.size, 2, none⟩ = some (.slice (some ⟨b, off, none⟩) l.unders.length s.c2) ∧ W.cell? ⟨b, off + k * 4, none⟩ = some (.string ⟨y0.toArray⟩) ∧ W.cell? ⟨gu, 0, none⟩ = some (.string ⟨x0.toArray⟩) ∧ RecH w W s l vs gu 57 #[.string ⟨x0.toArray⟩, .int .i64 x1, .int .i64 x2, .int .i64 x3]) (by kernel_rfl) (by kernel_rfl) ⟨(HA.out ▸ X00.led.c2), led_rec len_und (by decide) X00.led.at_.unders HA.out hku HK.out 0 _ rfl, X00.rec_.cell 0, X00⟩ ?_
                  clear X00
                  repeat first
                    | (refine' kept_go _ _ (fun W hW => _) _; rotate_left; (focus (go_simp; done)); (refine ⟨?_⟩; obtain ⟨k1, k2, k3, X9⟩ := hW; go_simp; first | done | (with_reducible rfl)); simp only [Act.put, List.setIfInBounds_toArray, List.set_cons_zero, List.set_cons_succ])
                    | (refine kept_skip ?_ ?_; (focus (first | (go_simp; done) | kernel_rfl)); simp only [Act.put, List.setIfInBounds_toArray, List.set_cons_zero, List.set_cons_succ])
                  refine kept_end ?_
                  rintro wk ⟨k1, k2, k3, X9⟩
                  go_wp2_with fail
                  go_ret
                  exact ⟨ret_bool (by rw [HG2.out, HX.out]; rfl), X9.led.low⟩
                · have hnb : (y0 == x0) = false := by simpa using hn
                  have HX := Lib.hid (HNN.out hn)
                  clear HNN HIn hn
                  have X00 := XH.out.drew
                  refine kept_region (fun W => W.cell? ⟨w.heap.size, 2, none⟩ = some (.slice (some ⟨b, off, none⟩) l.unders.length s.c2) ∧ W.cell? ⟨b, off + k * 4, none⟩ = some (.string ⟨y0.toArray⟩) ∧ W.cell? ⟨gu, 0, none⟩ = some (.string ⟨x0.toArray⟩) ∧ RecH w W s l vs gu 57 #[.string ⟨x0.toArray⟩, .int .i64 x1, .int .i64 x2, .int .i64 x3]) (by kernel_rfl) (by kernel_rfl) ⟨(HA.out ▸ X00.led.c2), led_rec len_und (by decide) X00.led.at_.unders HA.out hku HK.out 0 _ rfl, X00.rec_.cell 0, X00⟩ ?_
                  clear X00
                  repeat first
                    | (refine' kept_go _ _ (fun W hW => _) _; rotate_left; (focus (go_simp; done)); (refine ⟨?_⟩; obtain ⟨k1, k2, k3, X9⟩ := hW; go_simp; first | done | (with_reducible rfl)); simp only [Act.put, List.setIfInBounds_toArray, List.set_cons_zero, List.set_cons_succ])
                    | (refine kept_skip ?_ ?_; (focus (first | (go_simp; done) | kernel_rfl)); simp only [Act.put, List.setIfInBounds_toArray, List.set_cons_zero, List.set_cons_succ])
                  refine kept_end ?_
                  rintro wk ⟨k1, k2, k3, X9⟩
                  clear k1 k2 k3
                  go_wp2_with fail
                  go_roundw
                  case rel => exact ⟨k + 1, by omega, by go_num, X9, HX⟩
                  case measure => simp [intOf]; omega
              · obtain rfl : k = j := by omega
                have HX := Lib.hid (HT1.out HN.out)
                have XH := Lib.hid X
                clear HN X HT1 HTw
                go_wp2_with fail
                go_roundw
                case rel => exact ⟨k + 1, by omega, by go_num, XH.out.led, HX⟩
                case measure => simp [intOf]; omega
        · have HG3 : Hid (q = (l.instrs.all (insOk l.unders.length) && (accountsF l && (possF l.poss l.accts.length l.instrs.length && (ordersF l.orders l.accts.length l.instrs.length && (locsF l.avail l.locs l.accts.length l.instrs.length && l.orders.all (idOk l))))))) := by
            obtain rfl : j = l.unders.length := by omega
            have h1 := H.out
            rw [List.take_length] at h1
            unfold Hid
            rw [HG2.out, h1, Bool.true_and]
          clear H HG2
          have c3 := X.c3
          have XH := Lib.hid X
          clear X
          go_wp2_with fail
          clear c3
          go_loopw [97] (fun i wr => ∃ k : Nat, k ≤ l.instrs.length ∧ i = .int .i64 (k : Int) ∧ LedH w wr w.heap.size s l vs ∧ Hid ((l.instrs.take k).all (insOk l.unders.length) = true)) (fun i _ => l.instrs.length - (intOf i).toNat)
          case atStart => exact ⟨0, by omega, rfl, XH.out, rfl⟩
          case round =>
            clear XH
            obtain ⟨k, hk, rfl, X, H⟩ := hrel
            by_cases hlt : k < l.instrs.length
            · obtain ⟨b, off, ha, C1⟩ := rec_at len_ins (by decide) X.at_.instrs hlt
              have HT := Lib.hid (fun h => all_next (p := insOk l.unders.length) hlt H.out h)
              have HF := Lib.hid (fun h => all_no (p := insOk l.unders.length) hlt h)
              have C := Lib.hid (fun W => rinstr_calls l.instrs[k].kind l.instrs[k].under l.instrs[k].mult l.instrs[k].strike l.instrs[k].expiry l.instrs[k].call l.instrs[k].mark (l.unders.length : Nat) W)
              rw [show instrF l.instrs[k].kind l.instrs[k].under l.instrs[k].mult l.instrs[k].strike l.instrs[k].expiry l.instrs[k].call l.instrs[k].mark (l.unders.length : Nat) = insOk l.unders.length l.instrs[k] from rfl] at C
              clear H
              generalize insOk l.unders.length l.instrs[k] = r at HT HF C
              generalize l.instrs[k] = x at *
              obtain ⟨x0, x1, x2, x3, x4, x5, x6⟩ := x
              have c0 := C1 0 _ rfl
              have c1 := C1 1 _ rfl
              have c2 := C1 2 _ rfl
              have c3 := C1 3 _ rfl
              have c4 := C1 4 _ rfl
              have c5 := C1 5 _ rfl
              have c6 := C1 6 _ rfl
              clear C1
              simp only [← Nat.add_assoc, Nat.add_zero] at c0 c1 c2 c3 c4 c5 c6
              rw [ha]
              clear ha
              go_upto_region 23 with fail
              have X0 := Lib.hid (RecH.new X 60 #[.int .i64 x0, .int .i64 x1, .int .i64 x2, .int .i64 x3, .int .i64 x4, .bool x5, .int .i64 x6])
              clear X c0 c1 c2 c3 c4 c5 c6
              generalize wr.alloc (.cells #[.int .i64 x0, .int .i64 x1, .int .i64 x2, .int .i64 x3, .int .i64 x4, .bool x5, .int .i64 x6] 60) = w3 at *
              obtain ⟨gu, hgu⟩ : ∃ g, g = wr.heap.size := ⟨_, rfl⟩
              rw [← hgu] at X0 ⊢
              clear hgu
              have d2 := X0.out.led.c2
              have u0 : w3.cell? ⟨gu, 0, none⟩ = some (.int .i64 x0) := X0.out.rec_.cell 0
              have u1 : w3.cell? ⟨gu, 1, none⟩ = some (.int .i64 x1) := X0.out.rec_.cell 1
              have u2 : w3.cell? ⟨gu, 2, none⟩ = some (.int .i64 x2) := X0.out.rec_.cell 2
              have u3 : w3.cell? ⟨gu, 3, none⟩ = some (.int .i64 x3) := X0.out.rec_.cell 3
              have u4 : w3.cell? ⟨gu, 4, none⟩ = some (.int .i64 x4) := X0.out.rec_.cell 4
              have u5 : w3.cell? ⟨gu, 5, none⟩ = some (.bool x5) := X0.out.rec_.cell 5
              have u6 : w3.cell? ⟨gu, 6, none⟩ = some (.int .i64 x6) := X0.out.rec_.cell 6
              unfold instrV at C
              cases r
              · have HX := Lib.hid (HF.out rfl)
                clear HT HF
                go_wp2_with (go_at_call 52; refine (C.out _).mono ?_; rintro e w4 ⟨rfl, b4⟩)
                go_ret
                exact ⟨ret_bool (by rw [HG3.out, HX.out]; rfl), X0.out.led.low.trans (b4.mono X0.out.led.low.size)⟩
              · have HX := Lib.hid (HT.out rfl)
                clear HT HF
                go_wp2_with (go_at_call 52; refine (C.out _).mono ?_; rintro e w4 ⟨rfl, b4⟩)
                go_roundw
                case rel => exact ⟨k + 1, by omega, by go_num, (X0.out.keep b4).led, HX⟩
                case measure => simp [intOf]; omega
            · have HG4 : Hid (q = (accountsF l && (possF l.poss l.accts.length l.instrs.length && (ordersF l.orders l.accts.length l.instrs.length && (locsF l.avail l.locs l.accts.length l.instrs.length && l.orders.all (idOk l)))))) := by
                obtain rfl : k = l.instrs.length := by omega
                have h1 := H.out
                rw [List.take_length] at h1
                unfold Hid
                rw [HG3.out, h1, Bool.true_and]
              clear H HG3
              have HP := Lib.hid (fun W h => rparents_calls s l vs W h HFit.out)
              have hpl : (parents l).length = l.accts.length := by unfold parents; rw [List.length_map]
              have K := Lib.hid (fun W a c h => TreeW.rcheck_calls a c (parents l) W (by omega) h (fun x hx => by
                obtain ⟨y, hy, rfl⟩ := List.mem_map.1 hx
                exact (HFit.out.accts y hy).1))
              rw [hpl] at K
              have HAF : Hid (accountsF l = (decide ((TreeM.checkF (parents l)).2 = 0) && allI (accOk l.curs.length) 0 l.accts)) := rfl
              unfold ledV at HP
              clear hpl
              generalize TreeM.checkF (parents l) = ck at K HAF
              obtain ⟨q1, q2⟩ := ck
              have XH := Lib.hid X
              clear X
              have c0 := XH.out.c0
              have c1 := XH.out.c1
              have c2 := XH.out.c2
              have c3 := XH.out.c3
              have c4 := XH.out.c4
              have c5 := XH.out.c5
              have c6 := XH.out.c6
              have c7 := XH.out.c7
              have c8 := XH.out.c8
              by_cases hq : q2 = 0
              rotate_left
              · have hqb : (q2 != 0) = true := by simpa using hq
                have HX : Hid (q = false) := by unfold Hid; rw [HG4.out, HAF.out, decide_eq_false hq]; rfl
                clear hq HG4 HAF
                go_wp2_with (first | (go_at_call 54; refine (HP.out _ XH.out.at_).mono ?_; rintro e w5 ⟨pa, pc, rfl, hp, b5⟩; have X5 := Lib.hid (XH.out.keep b5); clear b5) | (go_at_call 53; refine (K.out _ _ _ hp).mono ?_; rintro e w6 ⟨rfl, b6⟩))
                go_ret
                exact ⟨ret_bool HX.out.symm, X5.out.low.trans (b6.mono X5.out.low.size)⟩
              subst hq
              have HG5 : Hid (q = (allI (accOk l.curs.length) 0 l.accts && (possF l.poss l.accts.length l.instrs.length && (ordersF l.orders l.accts.length l.instrs.length && (locsF l.avail l.locs l.accts.length l.instrs.length && l.orders.all (idOk l)))))) := by
                unfold Hid
                rw [HG4.out, HAF.out]
                simp
              clear HG4 HAF
              go_upto_region 29 with (first | (go_at_call 54; refine (HP.out _ XH.out.at_).mono ?_; rintro e w5 ⟨pa, pc, rfl, hp, b5⟩; have X5 := Lib.hid (XH.out.keep b5); clear b5) | (go_at_call 53; refine (K.out _ _ _ hp).mono ?_; rintro e w6 ⟨rfl, b6⟩; have X6 := Lib.hid (X5.out.keep b6); clear b6))
              clear c0 c1 c2 c3 c4 c5 c6 c7 c8 HP K XH X5 hp
              have c4 := X6.out.c4
              go_wp2_with fail
              clear c4
              go_loopw [119] (fun i wr => ∃ k : Nat, k ≤ l.accts.length ∧ i = .int .i64 (k : Int) ∧ LedH w wr w.heap.size s l vs ∧ Hid (allI (accOk l.curs.length) 0 (l.accts.take k) = true)) (fun i _ => l.accts.length - (intOf i).toNat)
              case atStart => exact ⟨0, by omega, rfl, X6.out, rfl⟩
              case round =>
                clear X6
                obtain ⟨v, hv, rfl, X, H⟩ := hrel
                by_cases hlt : v < l.accts.length
                · have hlv : v < vs.length := by have := HLen.out; omega
                  obtain ⟨b, off, ha, C1⟩ := rec_at len_acc (by decide) X.at_.accts hlv
                  have hcash := X.at_.cash _ (List.getElem_mem hlv)
                  have hfa := HFit.out.accts _ (List.getElem_mem hlt)
                  have HT := Lib.hid (fun h => allI_next hlt H.out h)
                  have HF := Lib.hid (fun h => allI_bad (f := accOk l.curs.length) hlt h)
                  have hke := LedAt.acc X.at_ hlv hlt
                  clear H
                  generalize l.accts[v] = a at *
                  generalize vs[v] = x at *
                  obtain ⟨xv, xa⟩ := x
                  simp only at hke
                  subst hke
                  obtain ⟨x0, x1, x2, x3⟩ := xa
                  obtain ⟨ca, cc, hxv, hcc, hcat⟩ := hcash
                  simp only at hxv hcc hcat
                  subst hxv
                  have c0 := C1 0 _ rfl
                  have c1 := C1 1 _ rfl
                  have c2 := C1 2 _ rfl
                  have c3 := C1 3 _ rfl
                  clear C1
                  simp only [← Nat.add_assoc, Nat.add_zero] at c0 c1 c2 c3
                  rw [ha]
                  clear ha
                  have HCat := Lib.hid (fun W (h : Below wr.heap.size wr W) => hcat.keep h)
                  clear hcat
                  go_upto_region 32 with fail
                  have X0 := Lib.hid (RecH.new X 46 #[.int .i64 x0, .slice ca x1.length cc, .bool x2, .int .i64 x3])
                  have LB := Lib.hid ((Below.refl wr.heap.size wr).alloc (Nat.le_refl _) (.cells #[.int .i64 x0, .slice ca x1.length cc, .bool x2, .int .i64 x3] 46))
                  clear X c0 c1 c2 c3
                  generalize wr.alloc (.cells #[.int .i64 x0, .slice ca x1.length cc, .bool x2, .int .i64 x3] 46) = w3 at *
                  obtain ⟨gu, hgu⟩ : ∃ g, g = wr.heap.size := ⟨_, rfl⟩
                  rw [← hgu] at X0 ⊢
                  have d1 := X0.out.led.c1
                  have u1 : w3.cell? ⟨gu, 1, none⟩ = some (.slice ca x1.length cc) := X0.out.rec_.cell 1
                  have u2 : w3.cell? ⟨gu, 2, none⟩ = some (.bool x2) := X0.out.rec_.cell 2
                  have u3 : w3.cell? ⟨gu, 3, none⟩ = some (.int .i64 x3) := X0.out.rec_.cell 3
                  clear hgu
                  by_cases hc : AccCond l.curs.length v ⟨x0, x1, x2, x3⟩
                  rotate_left
                  · have HX := Lib.hid (HF.out (accOk_no hc))
                    have HN := Lib.hid hc
                    clear HT HF hc HCat
                    cases x2 <;> go_wp2_with fail
                    all_goals first
                      | (go_ret; exact ⟨ret_bool (by rw [HG5.out, HX.out]; rfl), X0.out.led.low⟩)
                      | (exfalso; clear d1 u1 u2 u3; have hn := HN.out; unfold AccCond at hn; simp_all; try omega)
                  · have HOk := Lib.hid (accOk_go hc)
                    obtain ⟨i1, i2, i3, i4⟩ := hc
                    simp only at i1 i2 i3 i4
                    have hlb : ((x1.length : Int) != (l.curs.length : Int)) = false := by simp [i1]
                    have hcl : x1.length ≤ 9223372036854775807 := by have := hfa.2.2.2; simp only at this; omega
                    clear i1 hfa
                    have HGo : Hid (∀ b, x1.all FixpM.fits = b → accOk l.curs.length v ⟨x0, x1, x2, x3⟩ = b) := fun b h => by rw [HOk.out]; exact h
                    clear HOk
                    by_cases hk1 : v ≤ 1
                    · obtain ⟨rfl, rfl⟩ := i4 hk1
                      clear i4
                      go_upto_region 36 with fail
                      clear d1
                      go_wp2_with fail
                      clear u1 u2 u3
                      go_loopw [155] (fun i wq => ∃ k : Nat, k ≤ x1.length ∧ i = .int .i64 (k : Int) ∧ w3 = wq ∧ Hid ((x1.take k).all FixpM.fits = true)) (fun i _ => x1.length - (intOf i).toNat)
                      case atStart => exact ⟨0, by omega, rfl, rfl, by simp [Hid]⟩
                      case round =>
                        obtain ⟨k, hk, rfl, rfl, H⟩ := hrel
                        by_cases hlk : k < x1.length
                        · obtain ⟨cb, coff, hca, d0⟩ := HCat.out _ LB.out k _ (i64s_get x1 k hlk)
                          have HNx := Lib.hid (fun h => all_next (p := FixpM.fits) hlk H.out h)
                          have HNo := Lib.hid (fun h => all_no (p := FixpM.fits) hlk h)
                          clear H
                          generalize x1[k] = z at *
                          have CF := Lib.hid (fun W => FixpR.rfits_calls z W)
                          rw [hca]
                          clear hca
                          cases hz : FixpM.fits z with
                          | false =>
                            rw [hz] at CF
                            have HX := Lib.hid (HF.out (HGo.out _ (HNo.out hz)))
                            clear HNx HNo hz HT HF HGo
                            go_wp2_with (go_at_call 55; refine (CF.out _).mono ?_; rintro e w7 ⟨rfl, rfl⟩)
                            go_ret
                            exact ⟨ret_bool (by rw [HG5.out, HX.out]; rfl), X0.out.led.low⟩
                          | true =>
                            rw [hz] at CF
                            have HX := Lib.hid (HNx.out hz)
                            clear HNx HNo hz
                            go_wp2_with (go_at_call 55; refine (CF.out _).mono ?_; rintro e w7 ⟨rfl, rfl⟩)
                            go_roundw
                            case rel => exact ⟨k + 1, by omega, by go_num, by first | trivial | rfl, HX⟩
                            case measure => simp [intOf]; omega
                        · have h1 := H.out
                          rw [List.take_of_length_le (by omega)] at h1
                          have HX := Lib.hid (HT.out (HGo.out _ h1))
                          clear H h1 HT HF HGo
                          go_wp2_with fail
                          go_roundw
                          case rel => exact ⟨v + 1, by omega, by go_num, X0.out.led, HX⟩
                          case measure => simp [intOf]; omega
                    · clear i4
                      go_upto_region 36 with fail
                      clear d1
                      go_wp2_with fail
                      clear u1 u2 u3
                      go_loopw [155] (fun i wq => ∃ k : Nat, k ≤ x1.length ∧ i = .int .i64 (k : Int) ∧ w3 = wq ∧ Hid ((x1.take k).all FixpM.fits = true)) (fun i _ => x1.length - (intOf i).toNat)
                      case atStart => exact ⟨0, by omega, rfl, rfl, by simp [Hid]⟩
                      case round =>
                        obtain ⟨k, hk, rfl, rfl, H⟩ := hrel
                        by_cases hlk : k < x1.length
                        · obtain ⟨cb, coff, hca, d0⟩ := HCat.out _ LB.out k _ (i64s_get x1 k hlk)
                          have HNx := Lib.hid (fun h => all_next (p := FixpM.fits) hlk H.out h)
                          have HNo := Lib.hid (fun h => all_no (p := FixpM.fits) hlk h)
                          clear H
                          generalize x1[k] = z at *
                          have CF := Lib.hid (fun W => FixpR.rfits_calls z W)
                          rw [hca]
                          clear hca
                          cases hz : FixpM.fits z with
                          | false =>
                            rw [hz] at CF
                            have HX := Lib.hid (HF.out (HGo.out _ (HNo.out hz)))
                            clear HNx HNo hz HT HF HGo
                            go_wp2_with (go_at_call 55; refine (CF.out _).mono ?_; rintro e w7 ⟨rfl, rfl⟩)
                            go_ret
                            exact ⟨ret_bool (by rw [HG5.out, HX.out]; rfl), X0.out.led.low⟩
                          | true =>
                            rw [hz] at CF
                            have HX := Lib.hid (HNx.out hz)
                            clear HNx HNo hz
                            go_wp2_with (go_at_call 55; refine (CF.out _).mono ?_; rintro e w7 ⟨rfl, rfl⟩)
                            go_roundw
                            case rel => exact ⟨k + 1, by omega, by go_num, by first | trivial | rfl, HX⟩
                            case measure => simp [intOf]; omega
                        · have h1 := H.out
                          rw [List.take_of_length_le (by omega)] at h1
                          have HX := Lib.hid (HT.out (HGo.out _ h1))
                          clear H h1 HT HF HGo
                          go_wp2_with fail
                          go_roundw
                          case rel => exact ⟨v + 1, by omega, by go_num, X0.out.led, HX⟩
                          case measure => simp [intOf]; omega
                · have HG6 : Hid (q = (possF l.poss l.accts.length l.instrs.length && (ordersF l.orders l.accts.length l.instrs.length && (locsF l.avail l.locs l.accts.length l.instrs.length && l.orders.all (idOk l))))) := by
                    obtain rfl : v = l.accts.length := by omega
                    have h1 := H.out
                    rw [List.take_length] at h1
                    unfold Hid
                    rw [HG5.out, h1, Bool.true_and]
                  clear H HG5
                  have XH := Lib.hid X
                  clear X
                  go_upto_region 43 with fail
                  have X00 := XH.out.drew
                  refine kept_region (fun W => W.cell? ⟨w.heap.size, 4, none⟩ = some (.slice s.a4 l.accts.length s.c4) ∧ W.cell? ⟨w.heap.size, 3, none⟩ = some (.slice s.a3 l.instrs.length s.c3) ∧ LedH w W w.heap.size s l vs) (by kernel_rfl) (by kernel_rfl) ⟨X00.c4, X00.c3, X00⟩ ?_
                  clear X00
                  repeat first
                    | (refine' kept_go _ _ (fun W hW => _) _; rotate_left; (focus (go_simp; done)); (refine ⟨?_⟩; obtain ⟨k1, k2, X9⟩ := hW; go_simp; first | done | (with_reducible rfl)); simp only [Act.put, List.setIfInBounds_toArray, List.set_cons_zero, List.set_cons_succ])
                    | (refine kept_skip ?_ ?_; (focus (first | (go_simp; done) | kernel_rfl)); simp only [Act.put, List.setIfInBounds_toArray, List.set_cons_zero, List.set_cons_succ])
                  refine kept_end ?_
                  rintro wk ⟨k1, k2, X9⟩
                  have X7 := Lib.hid X9
                  clear k1 k2 X9 XH
                  have K5 := Lib.hid (fun W (X : LedH w W w.heap.size s l vs) => rposs_calls s.a5 s.c5 l.poss l.accts.length l.instrs.length W (by omega) X.at_.poss)
                  have K6 := Lib.hid (fun W (X : LedH w W w.heap.size s l vs) => rorders_calls s.a6 s.c6 l.orders l.accts.length l.instrs.length W (by omega) X.at_.orders)
                  have K7 := Lib.hid (fun W (X : LedH w W w.heap.size s l vs) => rlocs_calls s.a8 s.a7 s.c8 s.c7 l.avail l.locs l.accts.length l.instrs.length W (by omega) (by omega) X.at_.avail X.at_.locs)
                  have HEach := Lib.hid (fun h => orders_each (l := l.orders) (n := l.accts.length) (k := l.instrs.length) h)
                  have c5 := X7.out.c5; have c6 := X7.out.c6; have c7 := X7.out.c7; have c8 := X7.out.c8
                  cases h5 : possF l.poss l.accts.length l.instrs.length with
                  | false =>
                    rw [h5] at K5 HG6
                    clear h5 HEach
                    go_wp2_with (go_at_call 56; refine (K5.out _ X7.out).mono ?_; rintro e w8 ⟨rfl, b8⟩; have X8 := Lib.hid (X7.out.keep b8); clear b8 c5 c6 c7 c8; have c6 := X8.out.c6; have c7 := X8.out.c7; have c8 := X8.out.c8)
                    go_ret
                    exact ⟨ret_bool (by rw [HG6.out]; rfl), X8.out.low⟩
                  | true =>
                  rw [h5] at K5 HG6
                  clear h5
                  cases h6 : ordersF l.orders l.accts.length l.instrs.length with
                  | false =>
                    rw [h6] at K6 HG6
                    clear h6 HEach
                    go_wp2_with (first | (go_at_call 57; refine (K6.out _ X8.out).mono ?_; rintro e w9 ⟨rfl, b9⟩; have X9 := Lib.hid (X8.out.keep b9); clear b9 c6 c7 c8; have c7 := X9.out.c7; have c8 := X9.out.c8) | (go_at_call 56; refine (K5.out _ X7.out).mono ?_; rintro e w8 ⟨rfl, b8⟩; have X8 := Lib.hid (X7.out.keep b8); clear b8 c5 c6 c7 c8; have c6 := X8.out.c6; have c7 := X8.out.c7; have c8 := X8.out.c8))
                    go_ret
                    exact ⟨ret_bool (by rw [HG6.out]; rfl), X9.out.low⟩
                  | true =>
                  rw [h6] at K6 HG6
                  have HEa := Lib.hid (HEach.out h6)
                  clear h6 HEach
                  cases h7 : locsF l.avail l.locs l.accts.length l.instrs.length with
                  | false =>
                    rw [h7] at K7 HG6
                    clear h7
                    go_wp2_with (first | (go_at_call 58; refine (K7.out _ X9.out).mono ?_; rintro e w10 ⟨rfl, b10⟩; have X10 := Lib.hid (X9.out.keep b10); clear b10; have c5 := X10.out.c5; have c6 := X10.out.c6) | (go_at_call 57; refine (K6.out _ X8.out).mono ?_; rintro e w9 ⟨rfl, b9⟩; have X9 := Lib.hid (X8.out.keep b9); clear b9 c6 c7 c8; have c7 := X9.out.c7; have c8 := X9.out.c8) | (go_at_call 56; refine (K5.out _ X7.out).mono ?_; rintro e w8 ⟨rfl, b8⟩; have X8 := Lib.hid (X7.out.keep b8); clear b8 c5 c6 c7 c8; have c6 := X8.out.c6; have c7 := X8.out.c7; have c8 := X8.out.c8))
                    go_ret
                    exact ⟨ret_bool (by rw [HG6.out]; rfl), X10.out.low⟩
                  | true =>
                  rw [h7] at K7 HG6
                  have HG7 : Hid (q = l.orders.all (idOk l)) := by unfold Hid; rw [HG6.out]; simp
                  clear h7 HG6
                  go_upto_region 46 with (first | (go_at_call 58; refine (K7.out _ X9.out).mono ?_; rintro e w10 ⟨rfl, b10⟩; have X10 := Lib.hid (X9.out.keep b10); clear b10; have c5 := X10.out.c5; have c6 := X10.out.c6) | (go_at_call 57; refine (K6.out _ X8.out).mono ?_; rintro e w9 ⟨rfl, b9⟩; have X9 := Lib.hid (X8.out.keep b9); clear b9 c6 c7 c8; have c7 := X9.out.c7; have c8 := X9.out.c8) | (go_at_call 56; refine (K5.out _ X7.out).mono ?_; rintro e w8 ⟨rfl, b8⟩; have X8 := Lib.hid (X7.out.keep b8); clear b8 c5 c6 c7 c8; have c6 := X8.out.c6; have c7 := X8.out.c7; have c8 := X8.out.c8))
                  have XE := Lib.hid X10.out
                  clear X7 X8 X9 X10 K5 K6 K7 c5 c6 c7 c8
                  have c6 := XE.out.c6
                  go_wp2_with fail
                  clear c6
                  go_loopw [197] (fun i wr => ∃ k : Nat, k ≤ l.orders.length ∧ i = .int .i64 (k : Int) ∧ LedH w wr w.heap.size s l vs ∧ Hid ((l.orders.take k).all (idOk l) = true)) (fun i _ => l.orders.length - (intOf i).toNat)
                  case atStart => exact ⟨0, by omega, rfl, XE.out, rfl⟩
                  case round =>
                    clear XE
                    obtain ⟨k, hk, rfl, X, H⟩ := hrel
                    by_cases hlt : k < l.orders.length
                    · obtain ⟨b, off, ha, C1⟩ := rec_at len_ord (by decide) X.at_.orders hlt
                      have HT := Lib.hid (fun h => all_next (p := idOk l) hlt H.out h)
                      have HF := Lib.hid (fun h => all_no (p := idOk l) hlt h)
                      obtain ⟨hr2, hrn⟩ := HEa.out _ (List.getElem_mem hlt)
                      clear H
                      generalize l.orders[k] = x at *
                      obtain ⟨x0, x1, x2, x3, x4⟩ := x
                      simp only at hr2 hrn
                      obtain ⟨v, rfl⟩ : ∃ v : Nat, x0 = v := ⟨x0.toNat, by omega⟩
                      have hvl : v < l.accts.length := by omega
                      have hvs : v < vs.length := by rw [HLen.out]; exact hvl
                      obtain ⟨ab, aoff, haa, _⟩ := rec_at len_acc (by decide) HAt.out.accts hvs
                      have HLast := Lib.hid (last_at (l := l) (v := (v : Int)) rfl hvl)
                      obtain ⟨y, hy⟩ : ∃ y, vs[v] = y := ⟨_, rfl⟩
                      have hyl : y.2.last = (l.accts[v]).last := by rw [← hy, LedAt.acc HAt.out hvs hvl]
                      have HK := Lib.hid hy
                      have HAA := Lib.hid haa
                      clear hy haa
                      have HId : Hid (∀ b, decide (x1 ≤ y.2.last) = b → idOk l ⟨v, x1, x2, x3, x4⟩ = b) := fun b h => by
                        unfold idOk
                        rw [HLast.out, ← hyl]
                        exact h
                      have HLC := Lib.hid (fun W (R : RecH w W s l vs wr.heap.size 65 #[.int .i64 v, .int .i64 x1, .int .i64 x2, .int .i64 x3, .int .i64 x4]) => led_rec len_acc (by decide) R.led.at_.accts HAA.out hvs HK.out 3 _ rfl)
                      generalize y.2.last = yl at HId hyl HLC
                      clear hyl HLast
                      have c0 := C1 0 _ rfl
                      have c1 := C1 1 _ rfl
                      have c2 := C1 2 _ rfl
                      have c3 := C1 3 _ rfl
                      have c4 := C1 4 _ rfl
                      clear C1
                      simp only [← Nat.add_assoc, Nat.add_zero] at c0 c1 c2 c3 c4
                      rw [ha]
                      clear ha
                      go_upto_region 49 with fail
                      have X0 := Lib.hid (RecH.new X 65 #[.int .i64 v, .int .i64 x1, .int .i64 x2, .int .i64 x3, .int .i64 x4])
                      clear X c0 c1 c2 c3 c4
                      generalize wr.alloc (.cells #[.int .i64 v, .int .i64 x1, .int .i64 x2, .int .i64 x3, .int .i64 x4] 65) = w3 at *
                      obtain ⟨gu, hgu⟩ : ∃ g, g = wr.heap.size := ⟨_, rfl⟩
                      rw [← hgu] at X0 HLC ⊢
                      clear hgu
                      by_cases hid : x1 ≤ yl
                      · have HX := Lib.hid (HT.out (HId.out _ (decide_eq_true hid)))
                        have hnl : ¬ yl < x1 := by omega
                        clear HT HF HId
                        have X00 := X0.out.drew
                        refine kept_region (fun W => W.cell? ⟨gu, 1, none⟩ = some (.int .i64 x1) ∧ W.cell? ⟨w.heap.size, 4, none⟩ = some (.slice (some ⟨ab, aoff, none⟩) l.accts.length s.c4) ∧ W.cell? ⟨gu, 0, none⟩ = some (.int .i64 v) ∧ W.cell? ⟨ab, aoff + v * 4 + 3, none⟩ = some (.int .i64 yl) ∧ RecH w W s l vs gu 65 #[.int .i64 v, .int .i64 x1, .int .i64 x2, .int .i64 x3, .int .i64 x4]) (by kernel_rfl) (by kernel_rfl) ⟨X00.rec_.cell 1, (HAA.out ▸ X00.led.c4), X00.rec_.cell 0, HLC.out _ (X00), X00⟩ ?_
                        clear X00
                        repeat first
                          | (refine' kept_go _ _ (fun W hW => _) _; rotate_left; (focus (go_simp; done)); (refine ⟨?_⟩; obtain ⟨k1, k2, k3, k4, X9⟩ := hW; go_simp; first | done | (with_reducible rfl)); simp only [Act.put, List.setIfInBounds_toArray, List.set_cons_zero, List.set_cons_succ])
                          | (refine kept_skip ?_ ?_; (focus (first | (go_simp; done) | kernel_rfl)); simp only [Act.put, List.setIfInBounds_toArray, List.set_cons_zero, List.set_cons_succ])
                        refine kept_end ?_
                        rintro wk ⟨k1, k2, k3, k4, X9⟩
                        clear k1 k2 k3 k4
                        go_wp2_with fail
                        go_roundw
                        case rel => exact ⟨k + 1, by omega, by go_num, X9.led, HX⟩
                        case measure => simp [intOf]; omega
                      · have HX := Lib.hid (HF.out (HId.out _ (decide_eq_false hid)))
                        have hnl : yl < x1 := by omega
                        clear HT HF HId
                        have X00 := X0.out.drew
                        refine kept_region (fun W => W.cell? ⟨gu, 1, none⟩ = some (.int .i64 x1) ∧ W.cell? ⟨w.heap.size, 4, none⟩ = some (.slice (some ⟨ab, aoff, none⟩) l.accts.length s.c4) ∧ W.cell? ⟨gu, 0, none⟩ = some (.int .i64 v) ∧ W.cell? ⟨ab, aoff + v * 4 + 3, none⟩ = some (.int .i64 yl) ∧ RecH w W s l vs gu 65 #[.int .i64 v, .int .i64 x1, .int .i64 x2, .int .i64 x3, .int .i64 x4]) (by kernel_rfl) (by kernel_rfl) ⟨X00.rec_.cell 1, (HAA.out ▸ X00.led.c4), X00.rec_.cell 0, HLC.out _ (X00), X00⟩ ?_
                        clear X00
                        repeat first
                          | (refine' kept_go _ _ (fun W hW => _) _; rotate_left; (focus (go_simp; done)); (refine ⟨?_⟩; obtain ⟨k1, k2, k3, k4, X9⟩ := hW; go_simp; first | done | (with_reducible rfl)); simp only [Act.put, List.setIfInBounds_toArray, List.set_cons_zero, List.set_cons_succ])
                          | (refine kept_skip ?_ ?_; (focus (first | (go_simp; done) | kernel_rfl)); simp only [Act.put, List.setIfInBounds_toArray, List.set_cons_zero, List.set_cons_succ])
                        refine kept_end ?_
                        rintro wk ⟨k1, k2, k3, k4, X9⟩
                        clear k1 k2 k3 k4
                        go_wp2_with fail
                        go_ret
                        exact ⟨ret_bool (by rw [HG7.out, HX.out]), X9.led.low⟩
                    · have HX : Hid (q = true) := by
                        obtain rfl : k = l.orders.length := by omega
                        have h1 := H.out
                        rw [List.take_length] at h1
                        unfold Hid
                        rw [HG7.out, h1]
                      clear H HG7
                      go_wp2_with fail
                      go_ret
                      exact ⟨ret_bool HX.out.symm, X.low⟩
end Go.Proofs.YtocjfjikkdpfdaaGreatDoor.LedW
