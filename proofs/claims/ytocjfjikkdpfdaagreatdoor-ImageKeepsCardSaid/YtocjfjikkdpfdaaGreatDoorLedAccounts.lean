/- accounts and Good of a ledger: the program's answers. -/
import Derived.Test.YtocjfjikkdpfdaaGreatDoorLedGood
set_option linter.unusedSimpArgs false
set_option linter.unusedVariables false
namespace Go.Proofs.YtocjfjikkdpfdaaGreatDoor.LedW
open Go.RowKit Go.Proofs.YtocjfjikkdpfdaaGreatDoor.Bas Go.Proofs.YtocjfjikkdpfdaaGreatDoor.LedM Go.Proofs.YtocjfjikkdpfdaaGreatDoor.RefW

theorem parentsOf_led {W : World} {s : Lists} {l : Led} {vs : List (Value × Acc)} (h : LedAt W s l vs) : parentsOf vs = parents l := by
  unfold parentsOf parents
  rw [← h.each, List.map_map]; rfl
theorem accountsF_no {l : Led} (h : (TreeM.checkF (parents l)).2 ≠ 0) : accountsF l = false := by unfold accountsF; rw [decide_eq_false h]; rfl
theorem accountsF_go {l : Led} (h : (TreeM.checkF (parents l)).2 = 0) : accountsF l = allI (accOk l.curs.length) 0 l.accts := by unfold accountsF; rw [decide_eq_true h, Bool.true_and]
def AccCond (c n : Nat) (a : Acc) : Prop := a.cash.length = c ∧ 0 ≤ a.last ∧ a.last ≤ 1099511627776 ∧ (n ≤ 1 → a.flag = false ∧ a.last = 0)
theorem accOk_no {c n : Nat} {a : Acc} (h : ¬ AccCond c n a) : accOk c n a = false := by unfold AccCond at h; unfold accOk; rw [decide_eq_false h]; rfl
theorem accOk_go {c n : Nat} {a : Acc} (h : AccCond c n a) : accOk c n a = a.cash.all FixpM.fits := by unfold AccCond at h; unfold accOk; rw [decide_eq_true h, Bool.true_and]
set_option maxHeartbeats 4000000 in
set_option maxRecDepth 100000 in
theorem accounts_calls (s : Lists) (l : Led) (vs : List (Value × Acc)) (w : World) (hat : LedAt w s l vs) (hf : LedFit l) :
    Calls Tryz.prog 38 #[ledV s l] w fun e w' => e = .returned (.bool (accountsF l)) ∧ Below w.heap.size w w' := by
  unfold ledV
  have X := ledH_new w s l vs hat
  have HFit := Lib.hid hf
  have l1 := hf.len.1
  have l4 := hf.len.2.2.2.1
  have HLen := Lib.hid (LedAt.len hat)
  have HEach := Lib.hid (fun (k : Nat) (h1 : k < vs.length) (h2 : k < l.accts.length) => LedAt.acc hat h1 h2)
  have HForm := Lib.hid (fun x h => CashAt.form (hat.cash x h))
  have HPar := Lib.hid (parentsOf_led hat)
  clear hat hf
  go_enter Tryz.func38, Tryz.ntmps38
  go_upto_region 1 with fail
  generalize w.alloc (.cells #[.int .i64 l.day, .slice s.a1 l.curs.length s.c1, .slice s.a2 l.unders.length s.c2, .slice s.a3 l.instrs.length s.c3, .slice s.a4 l.accts.length s.c4, .slice s.a5 l.poss.length s.c5, .slice s.a6 l.orders.length s.c6, .slice s.a7 l.avail.length s.c7, .slice s.a8 l.locs.length s.c8] 31) = w0 at X ⊢
  have c4 := X.c4
  have P := parents_calls s.a4 s.c4 vs w0 (by have := HLen.out; omega) X.at_.accts HForm.out
  rw [HLen.out, HPar.out] at P
  have HP := Lib.hid P
  have hpl : (parents l).length = l.accts.length := by unfold parents; rw [List.length_map]
  have K := Lib.hid (fun W a c h => TreeW.check_calls a c (parents l) W (by omega) h (fun x hx => by
    obtain ⟨y, hy, rfl⟩ := List.mem_map.1 hx
    exact (HFit.out.accts y hy).1))
  rw [hpl] at K
  have HN := Lib.hid (accountsF_no (l := l))
  have HG := Lib.hid (accountsF_go (l := l))
  clear P hpl
  have XH := Lib.hid X
  clear X
  generalize TreeM.checkF (parents l) = q at K HN HG
  obtain ⟨q1, q2⟩ := q
  by_cases hq : q2 = 0
  rotate_left
  · have hqb : (q2 != 0) = true := by simpa using hq
    have HX := Lib.hid (HN.out hq)
    clear hq HN HG
    go_wp2_with (first | (go_at_call 67; refine HP.out.mono ?_; rintro e w1 ⟨sl, rfl, own, b1⟩; obtain ⟨ao, co, rfl, _, _, hat1, _, _⟩ := at_of_owns own; have X1 := Lib.hid (XH.out.keep b1); clear own b1) | (go_at_call 66; refine (K.out _ _ _ hat1).mono ?_; rintro e w2 ⟨rfl, b2⟩))
    go_ret
    exact ⟨ret_bool HX.out.symm, X1.out.low.trans (b2.mono X1.out.low.size)⟩
  subst hq
  have HQ := Lib.hid (HG.out rfl)
  clear HN HG
  go_wp2_with (first | (go_at_call 67; refine HP.out.mono ?_; rintro e w1 ⟨sl, rfl, own, b1⟩; obtain ⟨ao, co, rfl, _, _, hat1, _, _⟩ := at_of_owns own; have X1 := Lib.hid (XH.out.keep b1); clear own b1) | (go_at_call 66; refine (K.out _ _ _ hat1).mono ?_; rintro e w2 ⟨rfl, b2⟩; have X2 := Lib.hid (X1.out.keep b2); clear b2; have c4b := X2.out.c4))
  clear XH X1 HP K c4 c4b hat1
  go_loopw [19] (fun i wr => ∃ k : Nat, k ≤ l.accts.length ∧ i = .int .i64 (k : Int) ∧ LedH w wr w.heap.size s l vs ∧ Hid (allI (accOk l.curs.length) 0 (l.accts.take k) = true)) (fun i _ => l.accts.length - (intOf i).toNat)
  case atStart => exact ⟨0, by omega, rfl, X2.out, rfl⟩
  case round =>
    clear X2
    obtain ⟨k, hk, rfl, X, H⟩ := hrel
    by_cases hlt : k < l.accts.length
    · have hlv : k < vs.length := by have := HLen.out; omega
      obtain ⟨b, off, ha, C1⟩ := rec_at len_acc (by decide) X.at_.accts hlv
      have hcash := X.at_.cash _ (List.getElem_mem hlv)
      have hfa := HFit.out.accts _ (List.getElem_mem hlt)
      have HT := Lib.hid (fun h => allI_next hlt H.out h)
      have HF := Lib.hid (fun h => allI_bad (f := accOk l.curs.length) hlt h)
      have hke := HEach.out k hlv hlt
      clear H
      generalize l.accts[k] = a at *
      generalize vs[k] = x at *
      obtain ⟨xv, xa⟩ := x
      simp only at hke
      subst hke
      obtain ⟨x0, x1, x2, x3⟩ := xa
      obtain ⟨ca, cc, hxv, hcc, hcat⟩ := hcash
      simp only at hxv hcc hcat
      subst hxv
      have c0 := C1 0 _ rfl
      have c1 := C1 1 _ rfl
      have c2 := C1 2 _ rfl
      have c3 := C1 3 _ rfl
      clear C1
      simp only [← Nat.add_assoc, Nat.add_zero] at c0 c1 c2 c3
      have e4 := X.c4
      have HA := Lib.hid ha
      rw [ha] at e4 ⊢
      clear ha
      go_upto_region 7 with fail
      have XA := Box.new wr 46 #[.int .i64 x0, .slice ca x1.length cc, .bool x2, .int .i64 x3]
      have X3 := X.alloc (.cells #[.int .i64 x0, .slice ca x1.length cc, .bool x2, .int .i64 x3] 46)
      have hcat3 := hcat.keep ((Below.refl wr.heap.size wr).alloc (Nat.le_refl _) (.cells #[.int .i64 x0, .slice ca x1.length cc, .bool x2, .int .i64 x3] 46))
      clear X hcat c0 c1 c2 c3 e4
      generalize wr.alloc (.cells #[.int .i64 x0, .slice ca x1.length cc, .bool x2, .int .i64 x3] 46) = w3 at *
      have d1 : w3.cell? ⟨wr.heap.size, 1, none⟩ = some (.slice ca x1.length cc) := XA.cell 1
      have d2 : w3.cell? ⟨wr.heap.size, 2, none⟩ = some (.bool x2) := XA.cell 2
      have d3 : w3.cell? ⟨wr.heap.size, 3, none⟩ = some (.int .i64 x3) := XA.cell 3
      have e1 := X3.c1
      have XH := Lib.hid X3
      clear XA X3
      by_cases hc : AccCond l.curs.length k ⟨x0, x1, x2, x3⟩
      rotate_left
      · have HX := Lib.hid (HF.out (accOk_no hc))
        have HN := Lib.hid hc
        clear HT HF hc hcat3
        cases x2 <;> go_wp2_with fail
        all_goals first
          | (go_ret; exact ⟨ret_bool (by rw [HQ.out, HX.out]), XH.out.low⟩)
          | (exfalso; clear d1 d2 d3 e1; have hn := HN.out; unfold AccCond at hn; simp_all; try omega)
      · have HOk := Lib.hid (accOk_go hc)
        obtain ⟨i1, i2, i3, i4⟩ := hc
        simp only at i1 i2 i3 i4
        have hlb : ((x1.length : Int) != (l.curs.length : Int)) = false := by simp [i1]
        have HI1 := Lib.hid i1
        have hcl : x1.length ≤ 9223372036854775807 := by have := hfa.2.2.2; simp only at this; omega
        have C := Lib.hid (fun W h => contains_cash ca cc x1 _ _ W hcl h trivial keeps_true (asks_cash x1 hfa.2.2.1))
        have HNot := Lib.hid (any_not FixpM.fits x1)
        clear i1 hfa
        have HC := Lib.hid hcat3
        clear hcat3
        generalize (x1.any fun x => !FixpM.fits x) = r at C HNot
        have HOk2 : Hid (accOk l.curs.length k ⟨x0, x1, x2, x3⟩ = !r) := by unfold Hid; rw [HOk.out, HNot.out, Bool.not_not]
        clear HOk HNot
        generalize accOk l.curs.length k ⟨x0, x1, x2, x3⟩ = q at HT HF HOk2
        by_cases hk1 : k ≤ 1
        · obtain ⟨rfl, rfl⟩ := i4 hk1
          cases r
          · have HX := Lib.hid (HT.out HOk2.out)
            clear HT HF HOk2 i4
            go_wp2_with (go_at_call 68; refine (C.out _ HC.out).mono ?_; rintro e w4 ⟨rfl, b4⟩)
            go_roundw
            case rel => exact ⟨k + 1, by omega, by go_num, XH.out.keep b4, HX⟩
            case measure => simp [intOf]; omega
          · have HX := Lib.hid (HF.out HOk2.out)
            clear HT HF HOk2 i4
            go_wp2_with (go_at_call 68; refine (C.out _ HC.out).mono ?_; rintro e w4 ⟨rfl, b4⟩)
            go_ret
            exact ⟨ret_bool (by rw [HQ.out, HX.out]), XH.out.low.trans (b4.mono XH.out.low.size)⟩
        · clear i4
          cases r
          · have HX := Lib.hid (HT.out HOk2.out)
            clear HT HF HOk2
            go_wp2_with (go_at_call 68; refine (C.out _ HC.out).mono ?_; rintro e w4 ⟨rfl, b4⟩)
            go_roundw
            case rel => exact ⟨k + 1, by omega, by go_num, XH.out.keep b4, HX⟩
            case measure => simp [intOf]; omega
          · have HX := Lib.hid (HF.out HOk2.out)
            clear HT HF HOk2
            go_wp2_with (go_at_call 68; refine (C.out _ HC.out).mono ?_; rintro e w4 ⟨rfl, b4⟩)
            go_ret
            exact ⟨ret_bool (by rw [HQ.out, HX.out]), XH.out.low.trans (b4.mono XH.out.low.size)⟩
    · have HX : Hid (accountsF l = true) := by
        obtain rfl : k = l.accts.length := by omega
        have h1 := H.out
        rw [List.take_length] at h1
        unfold Hid
        rw [HQ.out, h1]
      clear H HQ
      go_wp2_with fail
      go_ret
      exact ⟨ret_bool HX.out.symm, X.low⟩
end Go.Proofs.YtocjfjikkdpfdaaGreatDoor.LedW
