/- ImageBack: the walk, and the step from the law's arguments to it. Written by genback.py. -/
import Derived.Test.YtocjfjikkdpfdaaDoorImgF
set_option linter.unusedSimpArgs false
set_option linter.unusedVariables false
namespace Go.Proofs.YtocjfjikkdpfdaaDoor.imageBack
open Go.ChangeShapes Go.WideShapes Go.ChangeAt Go.RowKit Go.Proofs.YtocjfjikkdpfdaaDoor.Bas Go.Proofs.YtocjfjikkdpfdaaDoor.LedM Go.Proofs.YtocjfjikkdpfdaaDoor.LedW Go.Proofs.YtocjfjikkdpfdaaDoor.ImgW

/-- Read of a beginning -/
theorem readl_take (bs : List UInt8) (a : Option Addr) (cap : Nat) (w : World) (hat : At w a (u8s bs)) (i : Nat) (hi : i ≤ bs.length) (hl : bs.length ≤ cap) (hm : cap ≤ maxLen) :
    Calls Tryd.prog 16 #[.slice a i cap] w fun e w' => ∃ s us, e = .returned (.tuple #[ledV s (readL (bs.take i)).1, .int .i64 (readL (bs.take i)).2]) ∧ LedOwn w.heap.size w' s (readL (bs.take i)).1 us ∧ Below w.heap.size w w' := by
  have h := readl_calls (bs.take i) a cap w (by rw [u8s_take]; exact hat.take i) (by rw [List.length_take]; omega) hm
  rwa [List.length_take, Nat.min_eq_left hi] at h
/-- Read of bytes with a nought behind -/
theorem readl_tail (bs : List UInt8) (a : Option Addr) (cap : Nat) (w : World) (hat : At w a (u8s bs ++ [.int .u8 0])) (hl : bs.length + 1 ≤ cap) (hm : cap ≤ maxLen) :
    Calls Tryd.prog 16 #[.slice a (bs.length + 1) cap] w fun e w' => ∃ s us, e = .returned (.tuple #[ledV s (readL (bs ++ [0])).1, .int .i64 (readL (bs ++ [0])).2]) ∧ LedOwn w.heap.size w' s (readL (bs ++ [0])).1 us ∧ Below w.heap.size w w' := by
  have h := readl_calls (bs ++ [0]) a cap w (by rw [u8s_append]; exact hat) (by simpa using hl) hm
  simpa using h
theorem encL_min (l : Led) : 64 ≤ (encL l).length := by
  unfold encL
  simp only [List.length_append]
  have : (encs (headL l)).length = 64 := by rw [encs_len]; rfl
  omega
theorem encL_max {l : Led} (hf : LedFit l) (hg : goodF l = true) : (encL l).length ≤ 100000000 := by
  obtain ⟨n1, n2, n3, n4, n5, n6, n7, n8⟩ := hf.len
  have h1 := flat_size encC 16 l.curs (fun x _ => by unfold encC; rw [encs_len]; exact Nat.le_refl _)
  have h2 := flat_size encU 40 l.unders (fun u hu => by have h1 := good_name hg u hu; unfold encU encT; rw [List.length_append, List.length_append, encN_len, encs_len]; simp only [List.length_cons, List.length_nil]; omega)
  have h3 := flat_size encI 64 (l.instrs.zip l.avail) (fun x _ => by unfold encI; rw [encs_len]; exact Nat.le_refl _)
  have h4 := flat_size encA 56 l.accts (fun a ha => by have h1 := good_cash hg a ha; unfold encA; rw [List.length_append, encs_len, encs_len]; simp only [List.length_cons, List.length_nil]; omega)
  have h5 := flat_size encP 24 l.poss (fun x _ => by unfold encP; rw [encs_len]; exact Nat.le_refl _)
  have h6 := flat_size encO 40 l.orders (fun x _ => by unfold encO; rw [encs_len]; exact Nat.le_refl _)
  have h7 := flat_size encP 24 l.locs (fun x _ => by unfold encP; rw [encs_len]; exact Nat.le_refl _)
  obtain ⟨m0, m1, m2, m3, m4, m5, m6⟩ := good_sizes hg
  have h8 : (l.instrs.zip l.avail).length ≤ 12 := by rw [List.length_zip]; omega
  have h9 : (encs (headL l)).length = 64 := by rw [encs_len]; rfl
  unfold encL
  simp only [List.length_append]
  omega
theorem image_bad (s : Lists) (l : Led) (vs : List (Value × Acc)) (W : World) (h : LedAt W s l vs) (hf : LedFit l) (hg : goodF l = false) :
    Calls Tryd.prog 9 #[ledV s l] W fun e w' => ∃ o, e = .returned (.tuple #[o, .int .i64 43]) ∧ Below W.heap.size W w' := by
  have hi : imageF l = ([], 43) := by unfold imageF; rw [hg]; rfl
  have h1 := image_calls s l vs W h hf
  rw [hi] at h1
  refine h1.mono ?_
  rintro e w' ⟨o, rfl, _, b⟩
  exact ⟨o, rfl, b⟩
/-- the law's box -/
structure LB (w W : World) (s : Lists) (l : Led) (vs : List (Value × Acc)) : Prop where
  led : Box W w.heap.size 31 #[.int .i64 l.day, .slice s.a1 l.curs.length s.c1, .slice s.a2 l.unders.length s.c2, .slice s.a3 l.instrs.length s.c3, .slice s.a4 l.accts.length s.c4, .slice s.a5 l.poss.length s.c5, .slice s.a6 l.orders.length s.c6, .slice s.a7 l.avail.length s.c7, .slice s.a8 l.locs.length s.c8]
  low : Below w.heap.size w W
theorem LB.keepB {w A B : World} {s : Lists} {l : Led} {vs : List (Value × Acc)} (h : LB w A s l vs) (b : Below (w.heap.size + 1) A B) : LB w B s l vs := ⟨h.led.below b (by omega), h.low.trans (b.mono (by omega))⟩
theorem LB.keep {w A B : World} {s : Lists} {l : Led} {vs : List (Value × Acc)} (h : LB w A s l vs) (b : Below A.heap.size A B) : LB w B s l vs := h.keepB (b.mono h.led.lt)
set_option maxHeartbeats 16000000 in
set_option maxRecDepth 100000 in
theorem walk (s : Lists) (l : Led) (vs : List (Value × Acc)) (bs : List UInt8) (a : Option Addr) (cap : Nat) (w : World) (h1 : LedAt w s l vs) (o1 : LedOk w l vs s) (b1 : LedBig l) (hbl : bs.length ≤ cap) (hcm : cap ≤ maxLen) (hb63 : bs.length ≤ 140737488351232) (hat : At w a (u8s bs)) :
    Calls Tryd.prog 6 #[ledV s l, .slice a bs.length cap] w fun e w' => e = .returned (.bool true) ∧ Below w.heap.size w w' := by
  have X : LB w (w.alloc (.cells #[.int .i64 l.day, .slice s.a1 l.curs.length s.c1, .slice s.a2 l.unders.length s.c2, .slice s.a3 l.instrs.length s.c3, .slice s.a4 l.accts.length s.c4, .slice s.a5 l.poss.length s.c5, .slice s.a6 l.orders.length s.c6, .slice s.a7 l.avail.length s.c7, .slice s.a8 l.locs.length s.c8] 31)) s l vs := ⟨Box.new w _ _, (Below.refl _ _).alloc (Nat.le_refl _) _⟩
  have HAT := Lib.hid hat
  have HLT := Lib.hid h1
  have D0 := Lib.hid (fun W => iwakes_calls W)
  have DW := Lib.hid (fun W h => iwide_calls s l vs W h b1)
  have HF := Lib.hid (fun h => ifit_of o1 h1 h)
  have HR := Lib.hid (fun W h => readl_calls bs a cap W h hbl hcm)
  have HFx := Lib.hid (readL_fit bs)
  have HBK : Hid (∀ y, readL bs = (y, 0) → imageF y = (bs, 0)) := fun y h => readL_back h
  have HNZ : Hid ((readL bs).2 ≠ 0 → (readL bs).1 = ImgW.zeroLed) := fun h => readL_zero h
  clear hat h1 o1 b1
  unfold ledV at DW HR ⊢
  generalize readL bs = q at HR HBK HNZ HFx
  obtain ⟨y, kq⟩ := q
  simp only at HR HNZ HFx
  go_enter Tryd.func6, Tryd.ntmps6
  go_upto_region 1 with fail
  generalize w.alloc (.cells #[.int .i64 l.day, .slice s.a1 l.curs.length s.c1, .slice s.a2 l.unders.length s.c2, .slice s.a3 l.instrs.length s.c3, .slice s.a4 l.accts.length s.c4, .slice s.a5 l.poss.length s.c5, .slice s.a6 l.orders.length s.c6, .slice s.a7 l.avail.length s.c7, .slice s.a8 l.locs.length s.c8] 31) = w0 at *
  have XH := Lib.hid X
  clear X
  cases hw : iwideF l with
  | true =>
    rw [hw] at DW
    clear hw HF HR HBK HNZ HFx
    go_wp2_with (first | (go_at_call 7; refine (D0.out _).mono ?_; rintro e w1 ⟨rfl, b1⟩; have X1 := Lib.hid (XH.out.keep b1); have k0 : w1.cell? ⟨w.heap.size, 0, none⟩ = some (.int .i64 l.day) := X1.out.led.cell 0; have k1 : w1.cell? ⟨w.heap.size, 1, none⟩ = some (.slice s.a1 l.curs.length s.c1) := X1.out.led.cell 1; have k2 : w1.cell? ⟨w.heap.size, 2, none⟩ = some (.slice s.a2 l.unders.length s.c2) := X1.out.led.cell 2; have k3 : w1.cell? ⟨w.heap.size, 3, none⟩ = some (.slice s.a3 l.instrs.length s.c3) := X1.out.led.cell 3; have k4 : w1.cell? ⟨w.heap.size, 4, none⟩ = some (.slice s.a4 l.accts.length s.c4) := X1.out.led.cell 4; have k5 : w1.cell? ⟨w.heap.size, 5, none⟩ = some (.slice s.a5 l.poss.length s.c5) := X1.out.led.cell 5; have k6 : w1.cell? ⟨w.heap.size, 6, none⟩ = some (.slice s.a6 l.orders.length s.c6) := X1.out.led.cell 6; have k7 : w1.cell? ⟨w.heap.size, 7, none⟩ = some (.slice s.a7 l.avail.length s.c7) := X1.out.led.cell 7; have k8 : w1.cell? ⟨w.heap.size, 8, none⟩ = some (.slice s.a8 l.locs.length s.c8) := X1.out.led.cell 8) | (go_at_call 8; refine (DW.out _ (HLT.out.keep X1.out.low)).mono ?_; rintro e w2 ⟨rfl, b2⟩))
    go_ret
    exact ⟨rfl, X1.out.low.trans (b2.mono X1.out.low.size)⟩
  | false =>
  rw [hw] at DW
  have hf := Lib.hid (HF.out hw)
  clear hw HF
  have HI := Lib.hid (fun W h => image_calls s l vs W h hf.out)
  have HG := Lib.hid (fun W h => lgood_calls s l vs W h hf.out)
  unfold ledV at HI HG
  go_upto_region 5 with (first | (go_at_call 7; refine (D0.out _).mono ?_; rintro e w1 ⟨rfl, b1⟩; have X1 := Lib.hid (XH.out.keep b1); have k0 : w1.cell? ⟨w.heap.size, 0, none⟩ = some (.int .i64 l.day) := X1.out.led.cell 0; have k1 : w1.cell? ⟨w.heap.size, 1, none⟩ = some (.slice s.a1 l.curs.length s.c1) := X1.out.led.cell 1; have k2 : w1.cell? ⟨w.heap.size, 2, none⟩ = some (.slice s.a2 l.unders.length s.c2) := X1.out.led.cell 2; have k3 : w1.cell? ⟨w.heap.size, 3, none⟩ = some (.slice s.a3 l.instrs.length s.c3) := X1.out.led.cell 3; have k4 : w1.cell? ⟨w.heap.size, 4, none⟩ = some (.slice s.a4 l.accts.length s.c4) := X1.out.led.cell 4; have k5 : w1.cell? ⟨w.heap.size, 5, none⟩ = some (.slice s.a5 l.poss.length s.c5) := X1.out.led.cell 5; have k6 : w1.cell? ⟨w.heap.size, 6, none⟩ = some (.slice s.a6 l.orders.length s.c6) := X1.out.led.cell 6; have k7 : w1.cell? ⟨w.heap.size, 7, none⟩ = some (.slice s.a7 l.avail.length s.c7) := X1.out.led.cell 7; have k8 : w1.cell? ⟨w.heap.size, 8, none⟩ = some (.slice s.a8 l.locs.length s.c8) := X1.out.led.cell 8) | (go_at_call 8; refine (DW.out _ (HLT.out.keep X1.out.low)).mono ?_; rintro e w2 ⟨rfl, b2⟩; have X2 := Lib.hid (X1.out.keep b2)))
  clear k0 k1 k2 k3 k4 k5 k6 k7 k8 X1 XH D0 DW b2
  have k0 : w2.cell? ⟨w.heap.size, 0, none⟩ = some (.int .i64 l.day) := X2.out.led.cell 0
  have k1 : w2.cell? ⟨w.heap.size, 1, none⟩ = some (.slice s.a1 l.curs.length s.c1) := X2.out.led.cell 1
  have k2 : w2.cell? ⟨w.heap.size, 2, none⟩ = some (.slice s.a2 l.unders.length s.c2) := X2.out.led.cell 2
  have k3 : w2.cell? ⟨w.heap.size, 3, none⟩ = some (.slice s.a3 l.instrs.length s.c3) := X2.out.led.cell 3
  have k4 : w2.cell? ⟨w.heap.size, 4, none⟩ = some (.slice s.a4 l.accts.length s.c4) := X2.out.led.cell 4
  have k5 : w2.cell? ⟨w.heap.size, 5, none⟩ = some (.slice s.a5 l.poss.length s.c5) := X2.out.led.cell 5
  have k6 : w2.cell? ⟨w.heap.size, 6, none⟩ = some (.slice s.a6 l.orders.length s.c6) := X2.out.led.cell 6
  have k7 : w2.cell? ⟨w.heap.size, 7, none⟩ = some (.slice s.a7 l.avail.length s.c7) := X2.out.led.cell 7
  have k8 : w2.cell? ⟨w.heap.size, 8, none⟩ = some (.slice s.a8 l.locs.length s.c8) := X2.out.led.cell 8
  rcases image_two l with ⟨hg, el⟩ | ⟨hg, el⟩
  · rw [el] at HI
    simp only at HI
    have HC : Hid (readL (encL l) = (l, 0) ∧ (∀ i, i < (encL l).length → readL ((encL l).take i) = (ImgW.zeroLed, 10)) ∧ readL (encL l ++ [0]) = (ImgW.zeroLed, 13)) := readL_enc hf.out hg
    have hn64 : 64 ≤ (encL l).length := encL_min l
    have hmax : (encL l).length ≤ 100000000 := encL_max hf.out hg
    clear el hg HG
    generalize encL l = en at *
    go_upto_region 6 with (go_at_call 9; refine (HI.out _ (HLT.out.keep X2.out.low)).mono ?_; rintro e w3 ⟨o3, rfl, own3, b3⟩)
    have X3 := Lib.hid (X2.out.keep b3)
    obtain ⟨a3, c3, rfl, hc3, hl3, at3, _, hno3⟩ := at_of_owns own3
    have A3 := Lib.hid at3
    obtain ⟨p3, rfl⟩ : ∃ p, a3 = some p := by
      cases a3 with
      | none => have := hno3 rfl; omega
      | some p => exact ⟨p, rfl⟩
    have HTT : Hid (∀ (W : World) (i : Nat), i < en.length → At W (some p3) (u8s en) → Calls Tryd.prog 16 #[.slice (some p3) i c3] W fun e w' => ∃ s us, e = .returned (.tuple #[ledV s ImgW.zeroLed, .int .i64 10]) ∧ LedOwn W.heap.size w' s ImgW.zeroLed us ∧ Below W.heap.size W w') := fun W i hi h => by
      have h1 := readl_take en (some p3) c3 W h i (Nat.le_of_lt hi) hl3 hc3
      rwa [HC.out.2.1 i hi] at h1
    have HTL := Lib.hid (fun W a c h h1 h2 => readl_tail en a c W h h1 h2)
    rw [HC.out.2.2] at HTL
    have HFu : Hid (∀ (W : World), At W (some p3) (u8s en) → Calls Tryd.prog 16 #[.slice (some p3) en.length c3] W fun e w' => ∃ s us, e = .returned (.tuple #[ledV s l, .int .i64 0]) ∧ LedOwn W.heap.size w' s l us ∧ Below W.heap.size W w') := fun W h => by
      have h1 := readl_calls en (some p3) c3 W h hl3 hc3
      rwa [HC.out.1] at h1
    unfold ledV at HTT HTL HFu
    clear k0 k1 k2 k3 k4 k5 k6 k7 k8 X2 b3 own3 HI at3 hno3 HC
    go_upto_region 8 with (first | (go_at_call 16; refine (HFu.out _ A3.out).mono ?_; rintro e w4 ⟨r, us, rfl, own4, b4⟩; have HB7 := Box.new w4 31 #[.int .i64 0, .slice none 0 0, .slice none 0 0, .slice none 0 0, .slice none 0 0, .slice none 0 0, .slice none 0 0, .slice none 0 0, .slice none 0 0]) | ((with_reducible refine wpList_store_box rfl 31 (.tmp 7) (.tmp 27) rfl #[.int .i64 l.day, .slice r.a1 l.curs.length r.c1, .slice r.a2 l.unders.length r.c2, .slice r.a3 l.instrs.length r.c3, .slice r.a4 l.accts.length r.c4, .slice r.a5 l.poss.length r.c5, .slice r.a6 l.orders.length r.c6, .slice r.a7 l.avail.length r.c7, .slice r.a8 l.locs.length r.c8] HB7 ?_ ?_ ?_ ?_ ?_ ?_); (· kernel_rfl); (· rfl); (· simp [Value.oneCell']); (· rfl); (· rfl)))
    have b5 : Below w4.heap.size w4 ((w4.alloc (.cells #[.int .i64 0, .slice none 0 0, .slice none 0 0, .slice none 0 0, .slice none 0 0, .slice none 0 0, .slice none 0 0, .slice none 0 0, .slice none 0 0] 31)).setRow w4.heap.size #[.int .i64 l.day, .slice r.a1 l.curs.length r.c1, .slice r.a2 l.unders.length r.c2, .slice r.a3 l.instrs.length r.c3, .slice r.a4 l.accts.length r.c4, .slice r.a5 l.poss.length r.c5, .slice r.a6 l.orders.length r.c6, .slice r.a7 l.avail.length r.c7, .slice r.a8 l.locs.length r.c8]) := below_setRow ((Below.refl _ _).alloc (Nat.le_refl _) _) (Nat.le_refl _) _
    have X5 := Lib.hid ((X3.out.keep b4).keep b5)
    have A5 := Lib.hid ((A3.out.keep b4).keep b5)
    have O5 := Lib.hid (own4.below b5)
    have Y5 : Box ((w4.alloc (.cells #[.int .i64 0, .slice none 0 0, .slice none 0 0, .slice none 0 0, .slice none 0 0, .slice none 0 0, .slice none 0 0, .slice none 0 0, .slice none 0 0] 31)).setRow w4.heap.size #[.int .i64 l.day, .slice r.a1 l.curs.length r.c1, .slice r.a2 l.unders.length r.c2, .slice r.a3 l.instrs.length r.c3, .slice r.a4 l.accts.length r.c4, .slice r.a5 l.poss.length r.c5, .slice r.a6 l.orders.length r.c6, .slice r.a7 l.avail.length r.c7, .slice r.a8 l.locs.length r.c8]) w4.heap.size 31 #[.int .i64 l.day, .slice r.a1 l.curs.length r.c1, .slice r.a2 l.unders.length r.c2, .slice r.a3 l.instrs.length r.c3, .slice r.a4 l.accts.length r.c4, .slice r.a5 l.poss.length r.c5, .slice r.a6 l.orders.length r.c6, .slice r.a7 l.avail.length r.c7, .slice r.a8 l.locs.length r.c8] := HB7.row _
    clear X3 A3 b4 b5 HB7 own4 HFu
    generalize (w4.alloc (.cells #[.int .i64 0, .slice none 0 0, .slice none 0 0, .slice none 0 0, .slice none 0 0, .slice none 0 0, .slice none 0 0, .slice none 0 0, .slice none 0 0] 31)).setRow w4.heap.size #[.int .i64 l.day, .slice r.a1 l.curs.length r.c1, .slice r.a2 l.unders.length r.c2, .slice r.a3 l.instrs.length r.c3, .slice r.a4 l.accts.length r.c4, .slice r.a5 l.poss.length r.c5, .slice r.a6 l.orders.length r.c6, .slice r.a7 l.avail.length r.c7, .slice r.a8 l.locs.length r.c8] = w5 at *
    generalize w4.heap.size = g7 at *
    have HS := Lib.hid (fun W h2 h3 => same_calls r l us s l vs W h2 h3 hf.out hf.out)
    simp only [decide_true] at HS
    unfold ledV at HS
    have k0 : w5.cell? ⟨w.heap.size, 0, none⟩ = some (.int .i64 l.day) := X5.out.led.cell 0
    have k1 : w5.cell? ⟨w.heap.size, 1, none⟩ = some (.slice s.a1 l.curs.length s.c1) := X5.out.led.cell 1
    have k2 : w5.cell? ⟨w.heap.size, 2, none⟩ = some (.slice s.a2 l.unders.length s.c2) := X5.out.led.cell 2
    have k3 : w5.cell? ⟨w.heap.size, 3, none⟩ = some (.slice s.a3 l.instrs.length s.c3) := X5.out.led.cell 3
    have k4 : w5.cell? ⟨w.heap.size, 4, none⟩ = some (.slice s.a4 l.accts.length s.c4) := X5.out.led.cell 4
    have k5 : w5.cell? ⟨w.heap.size, 5, none⟩ = some (.slice s.a5 l.poss.length s.c5) := X5.out.led.cell 5
    have k6 : w5.cell? ⟨w.heap.size, 6, none⟩ = some (.slice s.a6 l.orders.length s.c6) := X5.out.led.cell 6
    have k7 : w5.cell? ⟨w.heap.size, 7, none⟩ = some (.slice s.a7 l.avail.length s.c7) := X5.out.led.cell 7
    have k8 : w5.cell? ⟨w.heap.size, 8, none⟩ = some (.slice s.a8 l.locs.length s.c8) := X5.out.led.cell 8
    have m0 : w5.cell? ⟨g7, 0, none⟩ = some (.int .i64 l.day) := Y5.cell 0
    have m1 : w5.cell? ⟨g7, 1, none⟩ = some (.slice r.a1 l.curs.length r.c1) := Y5.cell 1
    have m2 : w5.cell? ⟨g7, 2, none⟩ = some (.slice r.a2 l.unders.length r.c2) := Y5.cell 2
    have m3 : w5.cell? ⟨g7, 3, none⟩ = some (.slice r.a3 l.instrs.length r.c3) := Y5.cell 3
    have m4 : w5.cell? ⟨g7, 4, none⟩ = some (.slice r.a4 l.accts.length r.c4) := Y5.cell 4
    have m5 : w5.cell? ⟨g7, 5, none⟩ = some (.slice r.a5 l.poss.length r.c5) := Y5.cell 5
    have m6 : w5.cell? ⟨g7, 6, none⟩ = some (.slice r.a6 l.orders.length r.c6) := Y5.cell 6
    have m7 : w5.cell? ⟨g7, 7, none⟩ = some (.slice r.a7 l.avail.length r.c7) := Y5.cell 7
    have m8 : w5.cell? ⟨g7, 8, none⟩ = some (.slice r.a8 l.locs.length r.c8) := Y5.cell 8
    clear Y5
    go_upto_region 10 with (go_at_call 14; refine (HS.out _ O5.out.at_ (HLT.out.keep X5.out.low)).mono ?_; rintro e w6 ⟨rfl, b6⟩)
    have X6 := Lib.hid (X5.out.keep b6)
    have A6 := Lib.hid (A5.out.keep b6)
    clear k0 k1 k2 k3 k4 k5 k6 k7 k8 m0 m1 m2 m3 m4 m5 m6 m7 m8 HS X5 A5 O5 b6
    go_wp2_with fail
    go_loopw [8, 9] (fun f i wr => ∃ (k : Nat) (c : Int), i = .int .i64 k ∧ k ≤ 200000000 ∧ f = .int .i64 c ∧ LB w wr s l vs ∧ At wr (some p3) (u8s en)) (fun _ i _ => en.length - (intOf i).toNat)
    case atStart => exact ⟨0, 0, rfl, by omega, rfl, X6.out, A6.out⟩
    case round =>
      clear X6 A6
      obtain ⟨k, c, rfl, hk, rfl, X5, A5⟩ := hrel
      have XX := Lib.hid X5
      have AA := Lib.hid A5
      clear X5 A5
      by_cases hlt : k < en.length
      · have HTk := Lib.hid (fun W h => HTT.out W k hlt h)
        have hq : IntKind.i64.wrap (1 + (en.length : Int) / 40) = ((1 + en.length / 40 : Nat) : Int) := by
          have h9 : IntKind.i64.wrap (1 + (en.length : Int) / 40) = 1 + (en.length : Int) / 40 := IntWalk.i64_in _ (by omega)
          rw [h9]; omega
        go_wp2_with (go_at_call 16; refine (HTk.out _ AA.out).mono ?_; rintro e w7 ⟨r7, us7, rfl, own7, b7⟩)
        go_roundw
        case rel => exact ⟨k + (1 + en.length / 40), 10, by go_num, by omega, rfl, XX.out.keep b7, AA.out.keep b7⟩
        case measure => simp [intOf]; omega
      · clear HTT
        go_upto_region 16 with fail
        have hzr : w.heap.size + 1 ≤ wr.heap.size := XX.out.led.lt
        go_upto_region 17 with (first | (at_builtin; refine wpList_append_at _ rfl (.tmp 59) (.tmp 60) elem8 rfl (w.heap.size + 1) v7 en.length (u8s en) rfl (owns_below own7 ((Below.refl _ _).alloc (Nat.le_refl _) _)) (some ⟨w7.heap.size, 0, none⟩) 1 1 [.int .u8 0] rfl rfl (at_alloc w7 #[.int .u8 0] _ _) (by simp [Value.oneCell']) (by unfold maxLen; omega) (by omega) (by simp; omega) ?_; intro v8 w8 own8 b8 _ _; obtain ⟨a8, c8, rfl, hc8, hl8, at8, _, _⟩ := at_of_owns own8; have A8 := Lib.hid at8; have X8 : Hid (LB w w8 s l vs) := (XX.out.keepB b7).keepB (((Below.refl _ _).alloc (by omega) _).trans b8)) | (at_builtin; refine wpList_append_at _ rfl (.tmp 57) (.tmp 58) elem8 rfl (w.heap.size + 1) (.slice (some ⟨wr.heap.size, 0, none⟩) 0 0) 0 [] rfl (World.ownsRow_made _ _ _ (by omega) (by unfold maxLen; omega) rfl) (some p3) en.length c3 (u8s en) rfl (by rw [u8s_len]; omega) (AA.out.keep ((Below.refl _ _).alloc (Nat.le_refl _) _)) (one_u8 en) (by unfold maxLen; omega) (by omega) (by simp; omega) ?_; intro v7 w7 own7 bb7 _ _; have b7 : Below (w.heap.size + 1) wr w7 := ((Below.refl _ _).alloc (by omega) _).trans bb7; have hz7 := b7.size; simp only [Nat.zero_add, List.nil_append] at own7) | (go_at_call 16; refine (HTL.out _ _ _ A8.out hl8 hc8).mono ?_; rintro e w9 ⟨r9, us9, rfl, own9, b9⟩))
        have X9 := Lib.hid (X8.out.keep b9)
        clear X8 A8 b9 XX AA HTL own9
        by_cases hk : kq = 0
        · subst hk
          have hev := HBK.out y rfl
          have HE2 := Lib.hid (fun W s us h => image_calls s y us W h HFx.out)
          rw [hev] at HE2
          simp only at HE2
          unfold ledV at HE2
          clear hev HNZ HBK
          go_upto_region 22 with (first | (go_at_call 16; refine (HR.out _ (HAT.out.keep X9.out.low)).mono ?_; rintro e w10 ⟨r10, us10, rfl, own10, b10⟩; have HB10 := Box.new w10 31 #[.int .i64 0, .slice none 0 0, .slice none 0 0, .slice none 0 0, .slice none 0 0, .slice none 0 0, .slice none 0 0, .slice none 0 0, .slice none 0 0]) | ((with_reducible refine wpList_store_box rfl 31 (.tmp 10) (.tmp 76) rfl #[.int .i64 y.day, .slice r10.a1 y.curs.length r10.c1, .slice r10.a2 y.unders.length r10.c2, .slice r10.a3 y.instrs.length r10.c3, .slice r10.a4 y.accts.length r10.c4, .slice r10.a5 y.poss.length r10.c5, .slice r10.a6 y.orders.length r10.c6, .slice r10.a7 y.avail.length r10.c7, .slice r10.a8 y.locs.length r10.c8] HB10 ?_ ?_ ?_ ?_ ?_ ?_); (· kernel_rfl); (· rfl); (· simp [Value.oneCell']); (· rfl); (· rfl)))
          have b11 : Below w10.heap.size w10 ((w10.alloc (.cells #[.int .i64 0, .slice none 0 0, .slice none 0 0, .slice none 0 0, .slice none 0 0, .slice none 0 0, .slice none 0 0, .slice none 0 0, .slice none 0 0] 31)).setRow w10.heap.size #[.int .i64 y.day, .slice r10.a1 y.curs.length r10.c1, .slice r10.a2 y.unders.length r10.c2, .slice r10.a3 y.instrs.length r10.c3, .slice r10.a4 y.accts.length r10.c4, .slice r10.a5 y.poss.length r10.c5, .slice r10.a6 y.orders.length r10.c6, .slice r10.a7 y.avail.length r10.c7, .slice r10.a8 y.locs.length r10.c8]) := below_setRow ((Below.refl _ _).alloc (Nat.le_refl _) _) (Nat.le_refl _) _
          have X11 := Lib.hid ((X9.out.keep b10).keep b11)
          have Y11 : Box ((w10.alloc (.cells #[.int .i64 0, .slice none 0 0, .slice none 0 0, .slice none 0 0, .slice none 0 0, .slice none 0 0, .slice none 0 0, .slice none 0 0, .slice none 0 0] 31)).setRow w10.heap.size #[.int .i64 y.day, .slice r10.a1 y.curs.length r10.c1, .slice r10.a2 y.unders.length r10.c2, .slice r10.a3 y.instrs.length r10.c3, .slice r10.a4 y.accts.length r10.c4, .slice r10.a5 y.poss.length r10.c5, .slice r10.a6 y.orders.length r10.c6, .slice r10.a7 y.avail.length r10.c7, .slice r10.a8 y.locs.length r10.c8]) w10.heap.size 31 #[.int .i64 y.day, .slice r10.a1 y.curs.length r10.c1, .slice r10.a2 y.unders.length r10.c2, .slice r10.a3 y.instrs.length r10.c3, .slice r10.a4 y.accts.length r10.c4, .slice r10.a5 y.poss.length r10.c5, .slice r10.a6 y.orders.length r10.c6, .slice r10.a7 y.avail.length r10.c7, .slice r10.a8 y.locs.length r10.c8] := HB10.row _
          have O11 := Lib.hid (own10.below b11)
          have AB := Lib.hid (HAT.out.keep X11.out.low)
          clear b10 b11 HB10 X9 HR HAT own10
          generalize (w10.alloc (.cells #[.int .i64 0, .slice none 0 0, .slice none 0 0, .slice none 0 0, .slice none 0 0, .slice none 0 0, .slice none 0 0, .slice none 0 0, .slice none 0 0] 31)).setRow w10.heap.size #[.int .i64 y.day, .slice r10.a1 y.curs.length r10.c1, .slice r10.a2 y.unders.length r10.c2, .slice r10.a3 y.instrs.length r10.c3, .slice r10.a4 y.accts.length r10.c4, .slice r10.a5 y.poss.length r10.c5, .slice r10.a6 y.orders.length r10.c6, .slice r10.a7 y.avail.length r10.c7, .slice r10.a8 y.locs.length r10.c8] = w11 at *
          generalize w10.heap.size = g10 at *
          have m0 : w11.cell? ⟨g10, 0, none⟩ = some (.int .i64 y.day) := Y11.cell 0
          have m1 : w11.cell? ⟨g10, 1, none⟩ = some (.slice r10.a1 y.curs.length r10.c1) := Y11.cell 1
          have m2 : w11.cell? ⟨g10, 2, none⟩ = some (.slice r10.a2 y.unders.length r10.c2) := Y11.cell 2
          have m3 : w11.cell? ⟨g10, 3, none⟩ = some (.slice r10.a3 y.instrs.length r10.c3) := Y11.cell 3
          have m4 : w11.cell? ⟨g10, 4, none⟩ = some (.slice r10.a4 y.accts.length r10.c4) := Y11.cell 4
          have m5 : w11.cell? ⟨g10, 5, none⟩ = some (.slice r10.a5 y.poss.length r10.c5) := Y11.cell 5
          have m6 : w11.cell? ⟨g10, 6, none⟩ = some (.slice r10.a6 y.orders.length r10.c6) := Y11.cell 6
          have m7 : w11.cell? ⟨g10, 7, none⟩ = some (.slice r10.a7 y.avail.length r10.c7) := Y11.cell 7
          have m8 : w11.cell? ⟨g10, 8, none⟩ = some (.slice r10.a8 y.locs.length r10.c8) := Y11.cell 8
          clear Y11
          go_upto_region 25 with (go_at_call 9; refine (HE2.out _ _ _ O11.out.at_).mono ?_; rintro e w12 ⟨o12, rfl, own12, b12⟩)
          obtain ⟨a12, c12, rfl, _, _, at12, _, _⟩ := at_of_owns own12
          have S := Lib.hid (isame_calls a12 a c12 cap bs bs w12 (by omega) (by omega) at12 (AB.out.keep b12))
          have X12 := Lib.hid (X11.out.keep b12)
          simp only [decide_true] at S
          clear m0 m1 m2 m3 m4 m5 m6 m7 m8 own12 b12 at12 AB X11 HE2 O11
          go_wp2_with (go_at_call 13; refine S.out.mono ?_; rintro e w13 ⟨rfl, hn13⟩)
          go_ret
          exact ⟨rfl, (X12.out.keep (bel_of hn13)).low⟩
        · obtain rfl := HNZ.out hk
          have hkb : (kq == 0) = false := by simpa using hk
          clear hk HNZ HBK HFx
          go_upto_region 22 with (first | (go_at_call 16; refine (HR.out _ (HAT.out.keep X9.out.low)).mono ?_; rintro e w10 ⟨r10, us10, rfl, own10, b10⟩; have HB10 := Box.new w10 31 #[.int .i64 0, .slice none 0 0, .slice none 0 0, .slice none 0 0, .slice none 0 0, .slice none 0 0, .slice none 0 0, .slice none 0 0, .slice none 0 0]) | ((with_reducible refine wpList_store_box rfl 31 (.tmp 10) (.tmp 76) rfl #[.int .i64 ImgW.zeroLed.day, .slice r10.a1 ImgW.zeroLed.curs.length r10.c1, .slice r10.a2 ImgW.zeroLed.unders.length r10.c2, .slice r10.a3 ImgW.zeroLed.instrs.length r10.c3, .slice r10.a4 ImgW.zeroLed.accts.length r10.c4, .slice r10.a5 ImgW.zeroLed.poss.length r10.c5, .slice r10.a6 ImgW.zeroLed.orders.length r10.c6, .slice r10.a7 ImgW.zeroLed.avail.length r10.c7, .slice r10.a8 ImgW.zeroLed.locs.length r10.c8] HB10 ?_ ?_ ?_ ?_ ?_ ?_); (· kernel_rfl); (· rfl); (· simp [Value.oneCell']); (· rfl); (· rfl)))
          have b11 : Below w10.heap.size w10 ((w10.alloc (.cells #[.int .i64 0, .slice none 0 0, .slice none 0 0, .slice none 0 0, .slice none 0 0, .slice none 0 0, .slice none 0 0, .slice none 0 0, .slice none 0 0] 31)).setRow w10.heap.size #[.int .i64 ImgW.zeroLed.day, .slice r10.a1 ImgW.zeroLed.curs.length r10.c1, .slice r10.a2 ImgW.zeroLed.unders.length r10.c2, .slice r10.a3 ImgW.zeroLed.instrs.length r10.c3, .slice r10.a4 ImgW.zeroLed.accts.length r10.c4, .slice r10.a5 ImgW.zeroLed.poss.length r10.c5, .slice r10.a6 ImgW.zeroLed.orders.length r10.c6, .slice r10.a7 ImgW.zeroLed.avail.length r10.c7, .slice r10.a8 ImgW.zeroLed.locs.length r10.c8]) := below_setRow ((Below.refl _ _).alloc (Nat.le_refl _) _) (Nat.le_refl _) _
          have X11 := Lib.hid ((X9.out.keep b10).keep b11)
          have Y11 : Box ((w10.alloc (.cells #[.int .i64 0, .slice none 0 0, .slice none 0 0, .slice none 0 0, .slice none 0 0, .slice none 0 0, .slice none 0 0, .slice none 0 0, .slice none 0 0] 31)).setRow w10.heap.size #[.int .i64 ImgW.zeroLed.day, .slice r10.a1 ImgW.zeroLed.curs.length r10.c1, .slice r10.a2 ImgW.zeroLed.unders.length r10.c2, .slice r10.a3 ImgW.zeroLed.instrs.length r10.c3, .slice r10.a4 ImgW.zeroLed.accts.length r10.c4, .slice r10.a5 ImgW.zeroLed.poss.length r10.c5, .slice r10.a6 ImgW.zeroLed.orders.length r10.c6, .slice r10.a7 ImgW.zeroLed.avail.length r10.c7, .slice r10.a8 ImgW.zeroLed.locs.length r10.c8]) w10.heap.size 31 #[.int .i64 ImgW.zeroLed.day, .slice r10.a1 ImgW.zeroLed.curs.length r10.c1, .slice r10.a2 ImgW.zeroLed.unders.length r10.c2, .slice r10.a3 ImgW.zeroLed.instrs.length r10.c3, .slice r10.a4 ImgW.zeroLed.accts.length r10.c4, .slice r10.a5 ImgW.zeroLed.poss.length r10.c5, .slice r10.a6 ImgW.zeroLed.orders.length r10.c6, .slice r10.a7 ImgW.zeroLed.avail.length r10.c7, .slice r10.a8 ImgW.zeroLed.locs.length r10.c8] := HB10.row _
          have O11 := Lib.hid (own10.below b11)
          have AB := Lib.hid (HAT.out.keep X11.out.low)
          clear b10 b11 HB10 X9 HR HAT own10
          generalize (w10.alloc (.cells #[.int .i64 0, .slice none 0 0, .slice none 0 0, .slice none 0 0, .slice none 0 0, .slice none 0 0, .slice none 0 0, .slice none 0 0, .slice none 0 0] 31)).setRow w10.heap.size #[.int .i64 ImgW.zeroLed.day, .slice r10.a1 ImgW.zeroLed.curs.length r10.c1, .slice r10.a2 ImgW.zeroLed.unders.length r10.c2, .slice r10.a3 ImgW.zeroLed.instrs.length r10.c3, .slice r10.a4 ImgW.zeroLed.accts.length r10.c4, .slice r10.a5 ImgW.zeroLed.poss.length r10.c5, .slice r10.a6 ImgW.zeroLed.orders.length r10.c6, .slice r10.a7 ImgW.zeroLed.avail.length r10.c7, .slice r10.a8 ImgW.zeroLed.locs.length r10.c8] = w11 at *
          generalize w10.heap.size = g10 at *
          have m0 : w11.cell? ⟨g10, 0, none⟩ = some (.int .i64 ImgW.zeroLed.day) := Y11.cell 0
          have m1 : w11.cell? ⟨g10, 1, none⟩ = some (.slice r10.a1 ImgW.zeroLed.curs.length r10.c1) := Y11.cell 1
          have m2 : w11.cell? ⟨g10, 2, none⟩ = some (.slice r10.a2 ImgW.zeroLed.unders.length r10.c2) := Y11.cell 2
          have m3 : w11.cell? ⟨g10, 3, none⟩ = some (.slice r10.a3 ImgW.zeroLed.instrs.length r10.c3) := Y11.cell 3
          have m4 : w11.cell? ⟨g10, 4, none⟩ = some (.slice r10.a4 ImgW.zeroLed.accts.length r10.c4) := Y11.cell 4
          have m5 : w11.cell? ⟨g10, 5, none⟩ = some (.slice r10.a5 ImgW.zeroLed.poss.length r10.c5) := Y11.cell 5
          have m6 : w11.cell? ⟨g10, 6, none⟩ = some (.slice r10.a6 ImgW.zeroLed.orders.length r10.c6) := Y11.cell 6
          have m7 : w11.cell? ⟨g10, 7, none⟩ = some (.slice r10.a7 ImgW.zeroLed.avail.length r10.c7) := Y11.cell 7
          have m8 : w11.cell? ⟨g10, 8, none⟩ = some (.slice r10.a8 ImgW.zeroLed.locs.length r10.c8) := Y11.cell 8
          clear Y11
          go_wp2_with fail
          go_ret
          exact ⟨rfl, X11.out.low⟩
  · rw [el] at HI
    have HI2 := Lib.hid (fun W h => image_bad s l vs W h hf.out hg)
    rw [hg] at HG
    unfold ledV at HI2
    clear el hg HI
    go_upto_region 6 with (go_at_call 9; refine (HI2.out _ (HLT.out.keep X2.out.low)).mono ?_; rintro e w3 ⟨o3, rfl, b3⟩)
    have X3 := Lib.hid (X2.out.keep b3)
    clear k0 k1 k2 k3 k4 k5 k6 k7 k8 X2 b3 HI2
    have k0 : w3.cell? ⟨w.heap.size, 0, none⟩ = some (.int .i64 l.day) := X3.out.led.cell 0
    have k1 : w3.cell? ⟨w.heap.size, 1, none⟩ = some (.slice s.a1 l.curs.length s.c1) := X3.out.led.cell 1
    have k2 : w3.cell? ⟨w.heap.size, 2, none⟩ = some (.slice s.a2 l.unders.length s.c2) := X3.out.led.cell 2
    have k3 : w3.cell? ⟨w.heap.size, 3, none⟩ = some (.slice s.a3 l.instrs.length s.c3) := X3.out.led.cell 3
    have k4 : w3.cell? ⟨w.heap.size, 4, none⟩ = some (.slice s.a4 l.accts.length s.c4) := X3.out.led.cell 4
    have k5 : w3.cell? ⟨w.heap.size, 5, none⟩ = some (.slice s.a5 l.poss.length s.c5) := X3.out.led.cell 5
    have k6 : w3.cell? ⟨w.heap.size, 6, none⟩ = some (.slice s.a6 l.orders.length s.c6) := X3.out.led.cell 6
    have k7 : w3.cell? ⟨w.heap.size, 7, none⟩ = some (.slice s.a7 l.avail.length s.c7) := X3.out.led.cell 7
    have k8 : w3.cell? ⟨w.heap.size, 8, none⟩ = some (.slice s.a8 l.locs.length s.c8) := X3.out.led.cell 8
    go_upto_region 21 with (go_at_call 17; refine (HG.out _ (HLT.out.keep X3.out.low)).mono ?_; rintro e w4 ⟨rfl, b4⟩)
    have X9 := Lib.hid (X3.out.keep b4)
    clear k0 k1 k2 k3 k4 k5 k6 k7 k8 X3 b4 HG
    by_cases hk : kq = 0
    · subst hk
      have hev := HBK.out y rfl
      have HE2 := Lib.hid (fun W s us h => image_calls s y us W h HFx.out)
      rw [hev] at HE2
      simp only at HE2
      unfold ledV at HE2
      clear hev HNZ HBK
      go_upto_region 22 with (first | (go_at_call 16; refine (HR.out _ (HAT.out.keep X9.out.low)).mono ?_; rintro e w10 ⟨r10, us10, rfl, own10, b10⟩; have HB10 := Box.new w10 31 #[.int .i64 0, .slice none 0 0, .slice none 0 0, .slice none 0 0, .slice none 0 0, .slice none 0 0, .slice none 0 0, .slice none 0 0, .slice none 0 0]) | ((with_reducible refine wpList_store_box rfl 31 (.tmp 10) (.tmp 76) rfl #[.int .i64 y.day, .slice r10.a1 y.curs.length r10.c1, .slice r10.a2 y.unders.length r10.c2, .slice r10.a3 y.instrs.length r10.c3, .slice r10.a4 y.accts.length r10.c4, .slice r10.a5 y.poss.length r10.c5, .slice r10.a6 y.orders.length r10.c6, .slice r10.a7 y.avail.length r10.c7, .slice r10.a8 y.locs.length r10.c8] HB10 ?_ ?_ ?_ ?_ ?_ ?_); (· kernel_rfl); (· rfl); (· simp [Value.oneCell']); (· rfl); (· rfl)))
      have b11 : Below w10.heap.size w10 ((w10.alloc (.cells #[.int .i64 0, .slice none 0 0, .slice none 0 0, .slice none 0 0, .slice none 0 0, .slice none 0 0, .slice none 0 0, .slice none 0 0, .slice none 0 0] 31)).setRow w10.heap.size #[.int .i64 y.day, .slice r10.a1 y.curs.length r10.c1, .slice r10.a2 y.unders.length r10.c2, .slice r10.a3 y.instrs.length r10.c3, .slice r10.a4 y.accts.length r10.c4, .slice r10.a5 y.poss.length r10.c5, .slice r10.a6 y.orders.length r10.c6, .slice r10.a7 y.avail.length r10.c7, .slice r10.a8 y.locs.length r10.c8]) := below_setRow ((Below.refl _ _).alloc (Nat.le_refl _) _) (Nat.le_refl _) _
      have X11 := Lib.hid ((X9.out.keep b10).keep b11)
      have Y11 : Box ((w10.alloc (.cells #[.int .i64 0, .slice none 0 0, .slice none 0 0, .slice none 0 0, .slice none 0 0, .slice none 0 0, .slice none 0 0, .slice none 0 0, .slice none 0 0] 31)).setRow w10.heap.size #[.int .i64 y.day, .slice r10.a1 y.curs.length r10.c1, .slice r10.a2 y.unders.length r10.c2, .slice r10.a3 y.instrs.length r10.c3, .slice r10.a4 y.accts.length r10.c4, .slice r10.a5 y.poss.length r10.c5, .slice r10.a6 y.orders.length r10.c6, .slice r10.a7 y.avail.length r10.c7, .slice r10.a8 y.locs.length r10.c8]) w10.heap.size 31 #[.int .i64 y.day, .slice r10.a1 y.curs.length r10.c1, .slice r10.a2 y.unders.length r10.c2, .slice r10.a3 y.instrs.length r10.c3, .slice r10.a4 y.accts.length r10.c4, .slice r10.a5 y.poss.length r10.c5, .slice r10.a6 y.orders.length r10.c6, .slice r10.a7 y.avail.length r10.c7, .slice r10.a8 y.locs.length r10.c8] := HB10.row _
      have O11 := Lib.hid (own10.below b11)
      have AB := Lib.hid (HAT.out.keep X11.out.low)
      clear b10 b11 HB10 X9 HR HAT own10
      generalize (w10.alloc (.cells #[.int .i64 0, .slice none 0 0, .slice none 0 0, .slice none 0 0, .slice none 0 0, .slice none 0 0, .slice none 0 0, .slice none 0 0, .slice none 0 0] 31)).setRow w10.heap.size #[.int .i64 y.day, .slice r10.a1 y.curs.length r10.c1, .slice r10.a2 y.unders.length r10.c2, .slice r10.a3 y.instrs.length r10.c3, .slice r10.a4 y.accts.length r10.c4, .slice r10.a5 y.poss.length r10.c5, .slice r10.a6 y.orders.length r10.c6, .slice r10.a7 y.avail.length r10.c7, .slice r10.a8 y.locs.length r10.c8] = w11 at *
      generalize w10.heap.size = g10 at *
      have m0 : w11.cell? ⟨g10, 0, none⟩ = some (.int .i64 y.day) := Y11.cell 0
      have m1 : w11.cell? ⟨g10, 1, none⟩ = some (.slice r10.a1 y.curs.length r10.c1) := Y11.cell 1
      have m2 : w11.cell? ⟨g10, 2, none⟩ = some (.slice r10.a2 y.unders.length r10.c2) := Y11.cell 2
      have m3 : w11.cell? ⟨g10, 3, none⟩ = some (.slice r10.a3 y.instrs.length r10.c3) := Y11.cell 3
      have m4 : w11.cell? ⟨g10, 4, none⟩ = some (.slice r10.a4 y.accts.length r10.c4) := Y11.cell 4
      have m5 : w11.cell? ⟨g10, 5, none⟩ = some (.slice r10.a5 y.poss.length r10.c5) := Y11.cell 5
      have m6 : w11.cell? ⟨g10, 6, none⟩ = some (.slice r10.a6 y.orders.length r10.c6) := Y11.cell 6
      have m7 : w11.cell? ⟨g10, 7, none⟩ = some (.slice r10.a7 y.avail.length r10.c7) := Y11.cell 7
      have m8 : w11.cell? ⟨g10, 8, none⟩ = some (.slice r10.a8 y.locs.length r10.c8) := Y11.cell 8
      clear Y11
      go_upto_region 25 with (go_at_call 9; refine (HE2.out _ _ _ O11.out.at_).mono ?_; rintro e w12 ⟨o12, rfl, own12, b12⟩)
      obtain ⟨a12, c12, rfl, _, _, at12, _, _⟩ := at_of_owns own12
      have S := Lib.hid (isame_calls a12 a c12 cap bs bs w12 (by omega) (by omega) at12 (AB.out.keep b12))
      have X12 := Lib.hid (X11.out.keep b12)
      simp only [decide_true] at S
      clear m0 m1 m2 m3 m4 m5 m6 m7 m8 own12 b12 at12 AB X11 HE2 O11
      go_wp2_with (go_at_call 13; refine S.out.mono ?_; rintro e w13 ⟨rfl, hn13⟩)
      go_ret
      exact ⟨rfl, (X12.out.keep (bel_of hn13)).low⟩
    · obtain rfl := HNZ.out hk
      have hkb : (kq == 0) = false := by simpa using hk
      clear hk HNZ HBK HFx
      go_upto_region 22 with (first | (go_at_call 16; refine (HR.out _ (HAT.out.keep X9.out.low)).mono ?_; rintro e w10 ⟨r10, us10, rfl, own10, b10⟩; have HB10 := Box.new w10 31 #[.int .i64 0, .slice none 0 0, .slice none 0 0, .slice none 0 0, .slice none 0 0, .slice none 0 0, .slice none 0 0, .slice none 0 0, .slice none 0 0]) | ((with_reducible refine wpList_store_box rfl 31 (.tmp 10) (.tmp 76) rfl #[.int .i64 ImgW.zeroLed.day, .slice r10.a1 ImgW.zeroLed.curs.length r10.c1, .slice r10.a2 ImgW.zeroLed.unders.length r10.c2, .slice r10.a3 ImgW.zeroLed.instrs.length r10.c3, .slice r10.a4 ImgW.zeroLed.accts.length r10.c4, .slice r10.a5 ImgW.zeroLed.poss.length r10.c5, .slice r10.a6 ImgW.zeroLed.orders.length r10.c6, .slice r10.a7 ImgW.zeroLed.avail.length r10.c7, .slice r10.a8 ImgW.zeroLed.locs.length r10.c8] HB10 ?_ ?_ ?_ ?_ ?_ ?_); (· kernel_rfl); (· rfl); (· simp [Value.oneCell']); (· rfl); (· rfl)))
      have b11 : Below w10.heap.size w10 ((w10.alloc (.cells #[.int .i64 0, .slice none 0 0, .slice none 0 0, .slice none 0 0, .slice none 0 0, .slice none 0 0, .slice none 0 0, .slice none 0 0, .slice none 0 0] 31)).setRow w10.heap.size #[.int .i64 ImgW.zeroLed.day, .slice r10.a1 ImgW.zeroLed.curs.length r10.c1, .slice r10.a2 ImgW.zeroLed.unders.length r10.c2, .slice r10.a3 ImgW.zeroLed.instrs.length r10.c3, .slice r10.a4 ImgW.zeroLed.accts.length r10.c4, .slice r10.a5 ImgW.zeroLed.poss.length r10.c5, .slice r10.a6 ImgW.zeroLed.orders.length r10.c6, .slice r10.a7 ImgW.zeroLed.avail.length r10.c7, .slice r10.a8 ImgW.zeroLed.locs.length r10.c8]) := below_setRow ((Below.refl _ _).alloc (Nat.le_refl _) _) (Nat.le_refl _) _
      have X11 := Lib.hid ((X9.out.keep b10).keep b11)
      have Y11 : Box ((w10.alloc (.cells #[.int .i64 0, .slice none 0 0, .slice none 0 0, .slice none 0 0, .slice none 0 0, .slice none 0 0, .slice none 0 0, .slice none 0 0, .slice none 0 0] 31)).setRow w10.heap.size #[.int .i64 ImgW.zeroLed.day, .slice r10.a1 ImgW.zeroLed.curs.length r10.c1, .slice r10.a2 ImgW.zeroLed.unders.length r10.c2, .slice r10.a3 ImgW.zeroLed.instrs.length r10.c3, .slice r10.a4 ImgW.zeroLed.accts.length r10.c4, .slice r10.a5 ImgW.zeroLed.poss.length r10.c5, .slice r10.a6 ImgW.zeroLed.orders.length r10.c6, .slice r10.a7 ImgW.zeroLed.avail.length r10.c7, .slice r10.a8 ImgW.zeroLed.locs.length r10.c8]) w10.heap.size 31 #[.int .i64 ImgW.zeroLed.day, .slice r10.a1 ImgW.zeroLed.curs.length r10.c1, .slice r10.a2 ImgW.zeroLed.unders.length r10.c2, .slice r10.a3 ImgW.zeroLed.instrs.length r10.c3, .slice r10.a4 ImgW.zeroLed.accts.length r10.c4, .slice r10.a5 ImgW.zeroLed.poss.length r10.c5, .slice r10.a6 ImgW.zeroLed.orders.length r10.c6, .slice r10.a7 ImgW.zeroLed.avail.length r10.c7, .slice r10.a8 ImgW.zeroLed.locs.length r10.c8] := HB10.row _
      have O11 := Lib.hid (own10.below b11)
      have AB := Lib.hid (HAT.out.keep X11.out.low)
      clear b10 b11 HB10 X9 HR HAT own10
      generalize (w10.alloc (.cells #[.int .i64 0, .slice none 0 0, .slice none 0 0, .slice none 0 0, .slice none 0 0, .slice none 0 0, .slice none 0 0, .slice none 0 0, .slice none 0 0] 31)).setRow w10.heap.size #[.int .i64 ImgW.zeroLed.day, .slice r10.a1 ImgW.zeroLed.curs.length r10.c1, .slice r10.a2 ImgW.zeroLed.unders.length r10.c2, .slice r10.a3 ImgW.zeroLed.instrs.length r10.c3, .slice r10.a4 ImgW.zeroLed.accts.length r10.c4, .slice r10.a5 ImgW.zeroLed.poss.length r10.c5, .slice r10.a6 ImgW.zeroLed.orders.length r10.c6, .slice r10.a7 ImgW.zeroLed.avail.length r10.c7, .slice r10.a8 ImgW.zeroLed.locs.length r10.c8] = w11 at *
      generalize w10.heap.size = g10 at *
      have m0 : w11.cell? ⟨g10, 0, none⟩ = some (.int .i64 ImgW.zeroLed.day) := Y11.cell 0
      have m1 : w11.cell? ⟨g10, 1, none⟩ = some (.slice r10.a1 ImgW.zeroLed.curs.length r10.c1) := Y11.cell 1
      have m2 : w11.cell? ⟨g10, 2, none⟩ = some (.slice r10.a2 ImgW.zeroLed.unders.length r10.c2) := Y11.cell 2
      have m3 : w11.cell? ⟨g10, 3, none⟩ = some (.slice r10.a3 ImgW.zeroLed.instrs.length r10.c3) := Y11.cell 3
      have m4 : w11.cell? ⟨g10, 4, none⟩ = some (.slice r10.a4 ImgW.zeroLed.accts.length r10.c4) := Y11.cell 4
      have m5 : w11.cell? ⟨g10, 5, none⟩ = some (.slice r10.a5 ImgW.zeroLed.poss.length r10.c5) := Y11.cell 5
      have m6 : w11.cell? ⟨g10, 6, none⟩ = some (.slice r10.a6 ImgW.zeroLed.orders.length r10.c6) := Y11.cell 6
      have m7 : w11.cell? ⟨g10, 7, none⟩ = some (.slice r10.a7 ImgW.zeroLed.avail.length r10.c7) := Y11.cell 7
      have m8 : w11.cell? ⟨g10, 8, none⟩ = some (.slice r10.a8 ImgW.zeroLed.locs.length r10.c8) := Y11.cell 8
      clear Y11
      go_wp2_with fail
      go_ret
      exact ⟨rfl, X11.out.low⟩

set_option maxRecDepth 100000 in
theorem opened (H : Type) (enc : TypeId × Value → H) (W : World) (base : Nat) (args : Array Value) (ds : List (DataW H)) (p : List MemPlace)
    (hval : ∀ (j : Nat) t v, Tryd.f6.params[j]? = some t → args[j]? = some v → Value.okWide Tryd.prog W .any base t v)
    (hA : DataW.TrodAll enc Tryd.prog W 0 (fun _ => true) true Tryd.f6.params.toList args.toList ds p)
    (hr : ∀ x ∈ DataW.weightsEach Tryd.prog Tryd.f6.params.toList ds, x ≤ reachBytes)
    (hL : laidMetH Tryd.prog Rows.imageBackRow.laid W) :
    Calls Tryd.prog 6 args W fun e W' => e = .returned (.bool true) ∧ Below W.heap.size W W' := by
  rw [Tryd.params6] at hA hval hr
  have _ := hL
  obtain ⟨v0, vs0, d0, ds0, p0, q0, hargs, rfl, rfl, h0, r0⟩ := trodAll_cons hA
  obtain ⟨v1, vs1, d1, ds1, p1, q1, rfl, rfl, rfl, h1, r1⟩ := trodAll_cons r0
  obtain ⟨rfl, rfl, rfl⟩ := trodAll_nil r1
  obtain rfl : args = #[v0, v1] := by cases args; simp_all
  obtain ⟨s, l, vs, rfl, hat, hok, hb⟩ := open_ledger2 (hval 0 31 v0 rfl rfl) h0 (fun x hx => hr x (by simp only [DataW.weightsEach, List.mem_append]; exact .inl hx))
  obtain ⟨a, bs, cap, rfl, hat2, hl, hm, hd⟩ := open_u8 Tryd.underlying36 Tryd.underlying5 cells8 (hval 1 36 v1 rfl rfl) h1
  have hreach := reach_slice (n := bs.length) (cap := cap) Tryd.underlying36 hd (fun x hx => hr x (weights_each (i := 1) rfl rfl x hx))
  rw [bytes8] at hreach
  exact walk s l vs bs a cap W hat hok hb hl hm (by omega) hat2
end Go.Proofs.YtocjfjikkdpfdaaDoor.imageBack
