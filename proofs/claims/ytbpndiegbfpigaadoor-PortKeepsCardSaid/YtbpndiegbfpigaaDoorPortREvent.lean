/- The walk of the document's Event. -/
import Derived.Test.YtbpndiegbfpigaaDoorPortEvent
import Derived.Test.YtbpndiegbfpigaaDoorDecRParse
namespace Go.Proofs.YtbpndiegbfpigaaDoor.PortW
open Go.RowKit Go.Proofs.YtbpndiegbfpigaaDoor.Bas Go.Proofs.YtbpndiegbfpigaaDoor.DecM Go.Proofs.YtbpndiegbfpigaaDoor.FixpM Go.Proofs.YtbpndiegbfpigaaDoor.FixpW Go.Proofs.YtbpndiegbfpigaaDoor.DecW Go.Proofs.YtbpndiegbfpigaaDoor.FldW Go.Proofs.YtbpndiegbfpigaaDoor.PortM

theorem kinds_idx (j : Nat) (h : j < 16) : ((⟨#[68, 70, 71, 56, 87, 82, 67, 65, 85, 73, 76, 66, 83, 86, 78, 69]⟩ : ByteArray)[j]'h) = kindsL.getD j 0 := by
  rcases (by omega : j = 0 ∨ j = 1 ∨ j = 2 ∨ j = 3 ∨ j = 4 ∨ j = 5 ∨ j = 6 ∨ j = 7 ∨ j = 8 ∨ j = 9 ∨ j = 10 ∨ j = 11 ∨ j = 12 ∨ j = 13 ∨ j = 14 ∨ j = 15) with rfl | rfl | rfl | rfl | rfl | rfl | rfl | rfl | rfl | rfl | rfl | rfl | rfl | rfl | rfl | rfl <;> rfl
theorem byte_eq {a c : UInt8} : ((a.toNat : Int) == (c.toNat : Int)) = decide (a = c) := by
  rw [Bool.eq_iff_iff]
  simp
  exact ⟨fun h => UInt8.toNat_inj.1 (by omega), fun h => by rw [h]⟩
theorem kinds_cmp (x : UInt8) (j : Nat) (h : j < 16) (h1 : 0 < (⟨#[x]⟩ : ByteArray).size) : (((((⟨#[68, 70, 71, 56, 87, 82, 67, 65, 85, 73, 76, 66, 83, 86, 78, 69]⟩ : ByteArray)[j]'h).toNat : Nat) : Int) == ((((⟨#[x]⟩ : ByteArray)[0]'h1).toNat : Nat) : Int)) = decide (kindsL.getD j 0 = x) := by
  rw [kinds_idx j h, byte_eq]
  rfl
theorem _root_.Go.Proofs.YtbpndiegbfpigaaDoor.Bas.At.setRow {w : World} {a : Option Addr} {cs : List Value} (h : At w a cs) {g : Nat} (hne : ∀ b off s, a = some ⟨b, off, s⟩ → b ≠ g) (C : Array Value) : At (w.setRow g C) a cs := by
  intro j v hj
  obtain ⟨b, off, rfl, hc⟩ := h j v hj
  refine ⟨b, off, rfl, ?_⟩
  unfold World.cell? at hc ⊢
  rw [setRow_other w g _ C (hne b off none rfl)]
  exact hc
theorem LoopE.nextRow {w W : World} {b off : Nat} {fs : List Fld} {s : List UInt8} {g1 : Nat} {a7 : Option Addr} {ts : List Int} {c : Ev × Int} {v v' : Ev} {k : Nat} (hk : k < ts.length) (H : HoldE w W b off fs s) (X : Box W g1 23 (Ev.cells v)) (hat : At W a7 (i64s ts))
    (hg : w.heap.size < g1) (hb : b ≠ g1) (h7 : ∀ b off s, a7 = some ⟨b, off, s⟩ → b ≠ g1) (hG : getAll v' (ts.drop (k + 1)) (fs.tail.drop (k + 1)) = c) : LoopE w b off fs s g1 a7 ts c (.int .i64 ((k : Int) + 1)) (W.setRow g1 (Ev.cells v')) :=
  ⟨k + 1, v', hk, by go_num, H.row hg hb _, X.row _, hat.setRow h7 _, hG⟩
/-- between two types -/
def LoopK (w : World) (b off : Nat) (fs : List Fld) (x : UInt8) (g1 : Nat) (i : Value) (wr : World) : Prop :=
  ∃ n : Nat, n ≤ 16 ∧ i = .int .i64 n ∧ HoldE w wr b off fs [x] ∧ Box wr g1 23 (Ev.cells (Ev.ofKind (kindT [x] n : Int)))
set_option maxHeartbeats 4000000 in
set_option maxRecDepth 20000 in
theorem revent_calls (fs : List Fld) (a : Option Addr) (cap : Nat) (w : World) (hl : fs.length ≤ 140737488351232) (hok : ∀ f ∈ fs, f.2.length ≤ 140737488351232) (hat : At w a (fcells fs)) :
    Calls Tryd.prog 16 #[.slice a fs.length cap] w fun e w' => e = .returned (.tuple #[.agg (Ev.cells (eventR fs).1), .int .i64 (eventR fs).2]) ∧ Below w.heap.size w w' := by
  have HA := Lib.hid (hat.keep ((Below.refl _ w).alloc (Nat.le_refl _) (.cells #[.int .i64 0, .int .i64 0, .int .i64 0, .int .i64 0, .int .i64 0, .int .i64 0, .int .i64 0, .int .i64 0, .int .i64 0, .int .i64 0, .bool false, .string ⟨#[]⟩] 23)))
  have HW := Lib.hid hat
  have HO := Lib.hid hok
  clear hat hok
  go_enter Tryd.func16, Tryd.ntmps16
  have X0 : Box (w.alloc (.cells #[.int .i64 0, .int .i64 0, .int .i64 0, .int .i64 0, .int .i64 0, .int .i64 0, .int .i64 0, .int .i64 0, .int .i64 0, .int .i64 0, .bool false, .string ⟨#[]⟩] 23)) w.heap.size 23 #[.int .i64 0, .int .i64 0, .int .i64 0, .int .i64 0, .int .i64 0, .int .i64 0, .int .i64 0, .int .i64 0, .int .i64 0, .int .i64 0, .bool false, .string ⟨#[]⟩] := Box.new w _ _
  have B0 := (Below.refl w.heap.size w).alloc (Nat.le_refl _) (.cells #[.int .i64 0, .int .i64 0, .int .i64 0, .int .i64 0, .int .i64 0, .int .i64 0, .int .i64 0, .int .i64 0, .int .i64 0, .int .i64 0, .bool false, .string ⟨#[]⟩] 23)
  cases fs with
  | nil =>
    simp only [List.length_nil]
    go_upto_region 1 with fail
    generalize w.alloc (.cells #[.int .i64 0, .int .i64 0, .int .i64 0, .int .i64 0, .int .i64 0, .int .i64 0, .int .i64 0, .int .i64 0, .int .i64 0, .int .i64 0, .bool false, .string ⟨#[]⟩] 23) = w0 at *
    have X0' : Box w0 w.heap.size 23 (Ev.cells Ev.zero) := X0
    go_wp2_with (first | ((with_reducible refine wpList_store_box rfl 23 (.tmp 2) (.tmp 30) rfl (Ev.cells Ev.zero) X0' ?_ ?_ ?_ ?_ ?_ ?_); (· exact size12 _); (· rfl); (· exact ev_one _); (· rfl); (· rfl); rw [Box.rowSelf X0']))
    exact bodyPost_ret (results_cell_slot (by rfl) _ _ X0' Tryd.underlying23 rfl (size12 _) rfl) rfl ⟨ret_ev rfl rfl rfl, B0⟩
  | cons f r =>
    obtain ⟨f1, f2⟩ := f
    have hr1 : r.length ≤ 140737488351232 := by simp at hl; omega
    have hn0 : ¬ ((((f1, f2) :: r).length : Int) = 0) := by simp; omega
    have hc0 := fld_at HA.out 0 (by simp)
    have hf2 : f2.length ≤ 140737488351232 := HO.out (f1, f2) List.mem_cons_self
    obtain ⟨b, off, rfl, c0, c1⟩ := hc0
    have hbw : b < w.heap.size := HW.out.lt b off none rfl (by unfold fcells fcell; simp)
    clear HW
    simp only [List.getElem_cons_zero, Nat.zero_mul, Nat.add_zero] at c0 c1
    obtain ⟨n, hn⟩ : ∃ n, n = ((f1, f2) :: r).length := ⟨_, rfl⟩
    have hnr : (n : Int) = r.length + 1 := by rw [hn]; simp
    rw [← hn] at hl hn0 ⊢
    have HN := Lib.hid hn
    clear hn
    go_upto_region 1 with fail
    have hz0 := X0.lt
    generalize w.alloc (.cells #[.int .i64 0, .int .i64 0, .int .i64 0, .int .i64 0, .int .i64 0, .int .i64 0, .int .i64 0, .int .i64 0, .int .i64 0, .int .i64 0, .bool false, .string ⟨#[]⟩] 23) = w0 at *
    have X0' : Box w0 w.heap.size 23 (Ev.cells Ev.zero) := X0
    clear X0
    have HNR := Lib.hid hnr
    clear hnr
    have hnb : ((n : Int) == 0) = false := by simpa using hn0
    by_cases h35 : f1 = 35
    · subst h35
      by_cases hone : f2.length = 1
      · obtain ⟨x, rfl⟩ : ∃ x, f2 = [x] := by match f2, hone with | [x], _ => exact ⟨x, rfl⟩
        have H0 : HoldE w w0 b off ((35, [x]) :: r) [x] := ⟨X0', HA.out, c1, B0⟩
        clear HA hf2 hone B0 X0'
        have H1 := H0.alloc (.cells #[.int .i64 0, .int .i64 0, .int .i64 0, .int .i64 0, .int .i64 0, .int .i64 0, .int .i64 0, .int .i64 0, .int .i64 0, .int .i64 0, .bool false, .string ⟨#[]⟩] 23)
        have X1 : Box (w0.alloc (.cells #[.int .i64 0, .int .i64 0, .int .i64 0, .int .i64 0, .int .i64 0, .int .i64 0, .int .i64 0, .int .i64 0, .int .i64 0, .int .i64 0, .bool false, .string ⟨#[]⟩] 23)) w0.heap.size 23 #[.int .i64 0, .int .i64 0, .int .i64 0, .int .i64 0, .int .i64 0, .int .i64 0, .int .i64 0, .int .i64 0, .int .i64 0, .int .i64 0, .bool false, .string ⟨#[]⟩] := Box.new w0 _ _
        go_upto_region 4 with fail
        generalize w0.alloc (.cells #[.int .i64 0, .int .i64 0, .int .i64 0, .int .i64 0, .int .i64 0, .int .i64 0, .int .i64 0, .int .i64 0, .int .i64 0, .int .i64 0, .bool false, .string ⟨#[]⟩] 23) = w1 at *
        generalize hg1 : w0.heap.size = g1 at *
        clear c0 c1 H0
        have X1' : Box w1 g1 23 (Ev.cells (Ev.ofKind (kindT [x] 0 : Int))) := by rw [kindT_zero]; exact X1
        go_wp2_with fail
        go_loopw [5] (LoopK w b off ((35, [x]) :: r) x g1) (fun i _ => 16 - (intOf i).toNat)
        case atStart => exact ⟨0, by omega, rfl, H1, X1'⟩
        case round =>
          clear H1 X1 X1'
          obtain ⟨j, hj, rfl, H, X⟩ := hrel
          by_cases hlt : j < 16
          · have c1 := H.c1
            have d0 : wr.cell? ⟨g1, 0, none⟩ = some (.int .i64 (kindT [x] j : Int)) := X.cell 0
            have d1 := X.frozen 0
            have hw1 : IntKind.i64.wrap ((j : Int) + 1) = (j : Int) + 1 := IntWalk.i64_in _ (by omega)
            have hq := kinds_cmp x j hlt Nat.zero_lt_one
            have HT1 := Lib.hid (fun h => @kindT_hit x j hlt h)
            have HT2 := Lib.hid (fun h => @kindT_miss x j hlt h)
            by_cases hx : kindsL.getD j 0 = x
            · rw [decide_eq_true hx] at hq
              have HX := Lib.hid (HT1.out hx)
              clear hx HT1 HT2
              go_upto_region 7 with fail
              go_quiet (fail)
              all_goals
                go_wp2_with fail
                go_roundw
                case rel => exact ⟨j + 1, by omega, by go_num, (H.drewN _).set hz0 (by omega) 0 _, by rw [HX.out]; exact Box.set (X.drewN _) 0 _⟩
                case measure => simp [intOf]; omega
            · rw [decide_eq_false hx] at hq
              have HX := Lib.hid (HT2.out hx)
              clear hx HT1 HT2
              go_upto_region 7 with fail
              go_quiet (fail)
              all_goals
                go_wp2_with fail
                go_roundw
                case rel => exact ⟨j + 1, by omega, by go_num, H.drewN _, by rw [HX.out]; exact X.drewN _⟩
                case measure => simp [intOf]; omega
          · have hj16 : j = 16 := by omega
            subst hj16
            rw [kindT_end] at X
            obtain ⟨wc, rfl⟩ : ∃ x, x = wr := ⟨wr, rfl⟩
            clear hg1
            have hg1 := hz0
            have H1 := H
            have X1 := X
            clear H X hlt hj hz0
            have hg1' := hg1
            have k0 : wc.cell? ⟨g1, 0, none⟩ = some (.int .i64 (kindF [x] : Int)) := X1.cell 0
            obtain ⟨c, hc⟩ : ∃ c, c = eventR ((35, [x]) :: r) := ⟨_, rfl⟩
            have hE0 := Lib.hid (fun h => hc.trans (@eventR_not (35, [x]) r h))
            have hE1 := Lib.hid (fun k h h0 h1 => hc.trans (@eventR_of [x] r k h h0 h1))
            have HC := Lib.hid hc.symm
            clear hc
            have hTm := Lib.hid (fun t h h1 h2 => @tag_num (kindF [x] : Int) t h h1 h2)
            have hO := Lib.hid (fun f (h : f ∈ r) => HO.out f (List.mem_cons_of_mem _ h))
            simp only [ne_eq] at hE0
            have hl6 := tagsF_len (kindF [x] : Int)
            have HTg := Lib.hid (fun W => rtags_calls (kindF [x] : Int) W)
            generalize hK : kindF [x] = K at *
            have HK := Lib.hid hK
            generalize hts : tagsF (K : Int) = ts at *
            have HTS := Lib.hid hts
            clear hK hts HO
            go_upto_region 10 with (go_at_call 24; refine (HTg.out _).mono ?_; rintro e w7 ⟨a7, c7, rfl, at7, fr7, b7⟩)
            have H7 := H1.keep b7
            have X7 := X1.keep b7
            have k7 := (b7.cell (World.block_lt_of_cell? wc _ k0)).trans k0
            have hnr := HNR.out
            have h7 : ∀ b off s, a7 = some ⟨b, off, s⟩ → b ≠ g1 := fun b off s e => by have := fr7 b off s e; have := X1.lt; omega
            have hbg : b ≠ g1 := by omega
            have HN7 := Lib.hid h7
            clear H1 X1 k0 b7 fr7 HTg h7
            have hw : IntKind.i64.wrap ((n : Int) - 1) = (r.length : Int) := by rw [IntWalk.i64_in _ (by omega)]; omega
            by_cases hk0 : K = 0
            · subst hk0
              have HR := Lib.hid (hE0.out (.inr (.inl rfl)))
              clear hE0 hE1 hTm hnr
              go_wp2_with (first | ((with_reducible refine wpList_store_box rfl 23 (.tmp 2) (.tmp 61) rfl (Ev.cells Ev.zero) H7.bx ?_ ?_ ?_ ?_ ?_ ?_); (· exact size12 _); (· rfl); (· exact ev_one _); (· rfl); (· rfl); rw [Box.rowSelf H7.bx]))
              exact bodyPost_ret (results_cell_slot (by rfl) _ _ H7.bx Tryd.underlying23 rfl (size12 _) rfl) rfl ⟨ret_ev (HC.out.trans HR.out) rfl rfl, H7.low⟩
            · have hk0' : ¬ ((K : Int) = 0) := by omega
              by_cases hlen : r.length = ts.length
              · have HR := Lib.hid (hE1.out K rfl hk0 (by rw [HTS.out]; exact hlen))
                have hne : ((r.length : Int) != (ts.length : Int)) = false := by simp; omega
                have hne' : (r.length : Int) = (ts.length : Int) := by omega
                have HL := Lib.hid hlen
                clear hE0 hE1 hnr hlen hk0
                rw [HTS.out] at HR
                have hkb : ((K : Int) == 0) = false := by simpa using hk0'
                have hz7 := H7.low.size
                go_wp2_with fail
                go_loopw [64] (LoopE w b off ((35, [x]) :: r) [x] g1 a7 ts c) (fun i _ => ts.length - (intOf i).toNat)
                case atStart => exact ⟨0, _, Nat.zero_le _, rfl, H7, X7, at7, HR.out.symm⟩
                case round =>
                  clear H7 X7 at7 hz7 k7
                  obtain ⟨k, v, hk, rfl, H, X, hat, HG⟩ := hrel
                  by_cases hlt : k < ts.length
                  · obtain ⟨b2, off2, rfl, hcell⟩ := hat k _ (i64s_get ts k hlt)
                    have hkr : k < r.length := by have := HL.out; omega
                    have hkn : k + 1 < n := by have := HNR.out; omega
                    obtain ⟨_, _, e, c0, c1⟩ := fld_at H.at_ (k + 1) (by simp; omega)
                    cases e
                    simp only [List.getElem_cons_succ] at c0 c1
                    have hO1 := hO.out _ (List.getElem_mem hkr)
                    have hT1 := hTm.out _ (List.getElem_mem hlt)
                    have hS := Lib.hid (fun v' h => getAll_step (v' := v') (c := c) hlt hkr HG.out h)
                    have hB := Lib.hid (fun v' e h h1 => getAll_bad (v' := v') (e := e) (c := c) hlt hkr HG.out h h1)
                    have HAT := Lib.hid hat
                    have hz := World.block_lt_of_cell? wr _ c0
                    clear hat HG
                    generalize hft : r[k] = f at *
                    generalize htt : ts[k] = t at *
                    obtain ⟨f1, f3⟩ := f
                    simp only at c0 c1 hO1
                    clear hft htt
                    have hwi : IntKind.i64.wrap ((k : Int) + 1) = ((k + 1 : Nat) : Int) := by rw [IntWalk.i64_in _ (by omega)]; omega
                    by_cases h1 : f1 = t
                    · subst h1
                      by_cases hnil : f3 = []
                      · subst hnil
                        have hR := Lib.hid (hB.out Ev.zero 11 (one_form (.inr rfl)) (by decide))
                        clear hT1 hS hB
                        have H8 := H.alloc (.cells #[.int .i64 f1, .string ⟨#[]⟩] 41)
                        go_wp2_with (first | ((with_reducible refine wpList_store_box rfl 23 (.tmp 2) (.tmp 97) rfl (Ev.cells Ev.zero) H8.bx ?_ ?_ ?_ ?_ ?_ ?_); (· exact size12 _); (· rfl); (· exact ev_one _); (· rfl); (· rfl); rw [Box.rowSelf H8.bx]))
                        exact bodyPost_ret (results_cell_slot (by rfl) _ _ H8.bx Tryd.underlying23 rfl (size12 _) rfl) rfl ⟨ret_ev (HC.out.trans hR.out) rfl rfl, H8.low⟩
                      · have hem : f3.isEmpty = false := by simp [hnil]
                        have hem2 : (f3 == []) = false := by simp [hnil]
                        have hne1 : (f1 != f1) = false := by simp
                        have hzg := X.lt
                        have H8 := H.alloc (.cells #[.int .i64 f1, .string ⟨f3.toArray⟩] 41)
                        have X8 := X.alloc (.cells #[.int .i64 f1, .string ⟨f3.toArray⟩] 41)
                        have A8 := HAT.out.keep ((Below.refl _ _).alloc (Nat.le_refl _) (.cells #[.int .i64 f1, .string ⟨f3.toArray⟩] 41))
                        by_cases h107 : f1 = 107
                        · subst h107
                          have hG := Lib.hid (hS.out _ (one_nm hnil))
                          clear hT1 hS hB
                          have d0 : wr.cell? ⟨g1, 11, none⟩ = some (.string ⟨v.name.toArray⟩) := X.cell 11
                          have d1 := X.frozen 11
                          go_wp2_with fail
                          go_roundw
                          case rel => exact LoopE.alloc (LoopE.next hlt H X HAT.out hg1 hbg HN7.out (name_cells v f3) hG.out) _
                          case measure => simp [intOf]; omega
                        · by_cases h201 : f1 = 201
                          · subst h201
                            have d0 : wr.cell? ⟨g1, 10, none⟩ = some (.bool v.call) := X.cell 10
                            have d1 := X.frozen 10
                            by_cases hy : f3 = [89]
                            · subst hy
                              have hG := Lib.hid (hS.out _ one_yes)
                              clear hT1 hS hB
                              go_wp2_with fail
                              go_roundw
                              case rel => exact LoopE.alloc (LoopE.next hlt H X HAT.out hg1 hbg HN7.out (call_cells v true) hG.out) _
                              case measure => simp [intOf]; omega
                            · by_cases hy2 : f3 = [78]
                              · subst hy2
                                have hG := Lib.hid (hS.out _ one_no)
                                clear hT1 hS hB
                                go_wp2_with fail
                                go_roundw
                                case rel => exact LoopE.alloc (LoopE.next hlt H X HAT.out hg1 hbg HN7.out (call_cells v false) hG.out) _
                                case measure => simp [intOf]; omega
                              · have hR := Lib.hid (hB.out Ev.zero 11 (one_odd hy hy2) (by decide))
                                have y1 : (f3 == [89]) = false := by simpa using hy
                                have y2 : (f3 == [78]) = false := by simpa using hy2
                                clear hT1 hS hB d0 d1
                                go_wp2_with (first | ((with_reducible refine wpList_store_box rfl 23 (.tmp 2) (.tmp 97) rfl (Ev.cells Ev.zero) H8.bx ?_ ?_ ?_ ?_ ?_ ?_); (· exact size12 _); (· rfl); (· exact ev_one _); (· rfl); (· rfl); rw [Box.rowSelf H8.bx]))
                                exact bodyPost_ret (results_cell_slot (by rfl) _ _ H8.bx Tryd.underlying23 rfl (size12 _) rfl) rfl ⟨ret_ev (HC.out.trans hR.out) rfl rfl, H8.low⟩
                          · have PC := fun W => rparse_calls ⟨f3.toArray⟩ 0 W (Nat.le_trans hO1 (by decide)) (by unfold I64; omega)
                            rw [show (⟨f3.toArray⟩ : ByteArray).data.toList = f3 by simp, ParV_zero] at PC
                            have t1 : (f1 == 107) = false := by simpa using h107
                            have t2 : (f1 == 201) = false := by simpa using h201
                            generalize hpf : parseF f3 0 = pr at *
                            obtain ⟨y, pe⟩ := pr
                            simp only at PC
                            have hWi := Lib.hid (fun W => with_calls v f1 y W (hT1 h107 h201))
                            have PC := Lib.hid PC
                            by_cases hpe : pe = 0
                            · subst hpe
                              have hG := Lib.hid (hS.out _ (one_set h107 h201 hnil hpf))
                              clear hT1 hS hB hpf
                              go_wp2_with (first
                                | (go_at_call 29; refine (PC.out _).mono ?_; rintro e w9 ⟨rfl, rfl⟩)
                                | ((with_reducible refine wpList_load_box rfl 23 (.tmp 4) rfl X8 Tryd.underlying23 ?_ ?_ ?_ ?_); (· rfl); (· exact size12 _); (· rfl))
                                | (go_at_call 30; refine (hWi.out _).mono ?_; rintro e w10 ⟨rfl, b10⟩; have H9 := H8.keep b10; have X9 := X8.keep b10; have A9 := Lib.hid (A8.keep b10))
                                | ((with_reducible refine wpList_store_box rfl 23 (.tmp 4) (.tmp 122) rfl (Ev.cells (setN v f1 y)) X9 ?_ ?_ ?_ ?_ ?_ ?_); (· exact size12 _); (· rfl); (· exact ev_one _); (· rfl); (· rfl); skip))
                              go_roundw
                              case rel => exact LoopE.nextRow hlt H9 X9 A9.out hg1 hbg HN7.out hG.out
                              case measure => simp [intOf]; omega
                            · have hR := Lib.hid (hB.out Ev.zero pe (one_err h107 h201 hnil hpf hpe) hpe)
                              have hpe1 : (pe != 0) = true := by simpa using hpe
                              clear hT1 hS hB hpf
                              go_wp2_with (first
                                | (go_at_call 29; refine (PC.out _).mono ?_; rintro e w9 ⟨rfl, rfl⟩)
                                | ((with_reducible refine wpList_store_box rfl 23 (.tmp 2) (.tmp 117) rfl (Ev.cells Ev.zero) H8.bx ?_ ?_ ?_ ?_ ?_ ?_); (· exact size12 _); (· rfl); (· exact ev_one _); (· rfl); (· rfl); rw [Box.rowSelf H8.bx]))
                              exact bodyPost_ret (results_cell_slot (by rfl) _ _ H8.bx Tryd.underlying23 rfl (size12 _) rfl) rfl ⟨ret_ev (HC.out.trans hR.out) rfl rfl, H8.low⟩
                    · have hR := Lib.hid (hB.out Ev.zero 11 (one_form (.inl h1)) (by decide))
                      have hne1 : (f1 != t) = true := by simpa using h1
                      clear hT1 hS hB
                      have H8 := H.alloc (.cells #[.int .i64 f1, .string ⟨f3.toArray⟩] 41)
                      go_wp2_with (first | ((with_reducible refine wpList_store_box rfl 23 (.tmp 2) (.tmp 97) rfl (Ev.cells Ev.zero) H8.bx ?_ ?_ ?_ ?_ ?_ ?_); (· exact size12 _); (· rfl); (· exact ev_one _); (· rfl); (· rfl); rw [Box.rowSelf H8.bx]))
                      exact bodyPost_ret (results_cell_slot (by rfl) _ _ H8.bx Tryd.underlying23 rfl (size12 _) rfl) rfl ⟨ret_ev (HC.out.trans hR.out) rfl rfl, H8.low⟩
                  · have hkk : k = ts.length := by omega
                    subst hkk
                    have hR := Lib.hid (getAll_end HG.out)
                    clear HG hlt
                    go_wp2_with (first | ((with_reducible refine wpList_load_box rfl 23 (.tmp 4) rfl X Tryd.underlying23 ?_ ?_ ?_ ?_); (· rfl); (· exact size12 _); (· rfl)) | ((with_reducible refine wpList_store_box rfl 23 (.tmp 2) (.tmp 124) rfl (Ev.cells v) H.bx ?_ ?_ ?_ ?_ ?_ ?_); (· exact size12 _); (· rfl); (· exact ev_one _); (· rfl); (· rfl); skip))
                    have H9 := Box.row H.bx (Ev.cells v)
                    exact bodyPost_ret (results_cell_slot (by rfl) _ _ H9 Tryd.underlying23 rfl (size12 _) rfl) rfl ⟨ret_ev (HC.out.trans hR.out) rfl rfl, below_setRow H.low (Nat.le_refl _) _⟩
              · have HR := Lib.hid (hE0.out (.inr (.inr hlen)))
                have hne : ((r.length : Int) != (ts.length : Int)) = true := by simp; omega
                have hne' : ¬ (r.length : Int) = (ts.length : Int) := by omega
                clear hE0 hE1 hTm hnr hlen hk0
                go_wp2_with (first | ((with_reducible refine wpList_store_box rfl 23 (.tmp 2) (.tmp 61) rfl (Ev.cells Ev.zero) H7.bx ?_ ?_ ?_ ?_ ?_ ?_); (· exact size12 _); (· rfl); (· exact ev_one _); (· rfl); (· rfl); rw [Box.rowSelf H7.bx]))
                exact bodyPost_ret (results_cell_slot (by rfl) _ _ H7.bx Tryd.underlying23 rfl (size12 _) rfl) rfl ⟨ret_ev (HC.out.trans HR.out) rfl rfl, H7.low⟩
      · have hR := Lib.hid (@eventR_not (35, f2) r (.inr (.inl (kindF_long hone))))
        have hne : ((f2.length : Int) != 1) = true := by simp; omega
        go_wp2_with (first | ((with_reducible refine wpList_store_box rfl 23 (.tmp 2) (.tmp 30) rfl (Ev.cells Ev.zero) X0' ?_ ?_ ?_ ?_ ?_ ?_); (· exact size12 _); (· rfl); (· exact ev_one _); (· rfl); (· rfl); rw [Box.rowSelf X0']))
        exact bodyPost_ret (results_cell_slot (by rfl) _ _ X0' Tryd.underlying23 rfl (size12 _) rfl) rfl ⟨ret_ev hR.out rfl rfl, B0⟩
    · have HR := Lib.hid (@eventR_not (f1, f2) r (.inl h35))
      have hne : (f1 != 35) = true := by simpa using h35
      go_wp2_with (first | ((with_reducible refine wpList_store_box rfl 23 (.tmp 2) (.tmp 30) rfl (Ev.cells Ev.zero) X0' ?_ ?_ ?_ ?_ ?_ ?_); (· exact size12 _); (· rfl); (· exact ev_one _); (· rfl); (· rfl); rw [Box.rowSelf X0']))
      exact bodyPost_ret (results_cell_slot (by rfl) _ _ X0' Tryd.underlying23 rfl (size12 _) rfl) rfl ⟨ret_ev HR.out rfl rfl, B0⟩
end Go.Proofs.YtbpndiegbfpigaaDoor.PortW
