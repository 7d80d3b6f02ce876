/- ImageEvents: the walk, and the step from the law's arguments to it. Written by genevents.py. -/
import Derived.Test.YtocjfjikkdpfdaaDoorImgE
set_option linter.unusedSimpArgs false
set_option linter.unusedVariables false
namespace Go.Proofs.YtocjfjikkdpfdaaDoor.imageEvents
open Go.ChangeShapes Go.WideShapes Go.ChangeAt Go.RowKit Go.Proofs.YtocjfjikkdpfdaaDoor.Bas Go.Proofs.YtocjfjikkdpfdaaDoor.LedM Go.Proofs.YtocjfjikkdpfdaaDoor.LedW Go.Proofs.YtocjfjikkdpfdaaDoor.ImgW

/-- the law's box -/
structure EB (w W : World) (x : EvR) : Prop where
  ev : Box W w.heap.size 33 #[.int .i64 x.kind, .int .i64 x.acct, .int .i64 x.id, .int .i64 x.new, .int .i64 x.instr, .int .i64 x.under, .int .i64 x.cur, .int .i64 x.qty, .int .i64 x.price, .int .i64 x.amount, .bool x.call, .string ⟨x.name.toArray⟩]
  low : Below w.heap.size w W
theorem EB.keepB {w A B : World} {x : EvR} (h : EB w A x) (b : Below (w.heap.size + 1) A B) : EB w B x := ⟨h.ev.below b (by omega), h.low.trans (b.mono (by omega))⟩
theorem EB.keep {w A B : World} {x : EvR} (h : EB w A x) (b : Below A.heap.size A B) : EB w B x := h.keepB (b.mono h.ev.lt)
set_option maxHeartbeats 16000000 in
set_option maxRecDepth 100000 in
theorem walk (x : EvR) (fx : EvFit x) (bs : List UInt8) (a : Option Addr) (cap : Nat) (w : World) (hbl : bs.length ≤ cap) (hcm : cap ≤ maxLen) (hb63 : bs.length ≤ 140737488351232) (hat : At w a (u8s bs)) :
    Calls Tryd.prog 5 #[evV x, .slice a bs.length cap] w fun e w' => e = .returned (.bool true) ∧ Below w.heap.size w w' := by
  have X : EB w (w.alloc (.cells #[.int .i64 x.kind, .int .i64 x.acct, .int .i64 x.id, .int .i64 x.new, .int .i64 x.instr, .int .i64 x.under, .int .i64 x.cur, .int .i64 x.qty, .int .i64 x.price, .int .i64 x.amount, .bool x.call, .string ⟨x.name.toArray⟩] 33)) x := ⟨Box.new w _ _, (Below.refl _ _).alloc (Nat.le_refl _) _⟩
  have HAT := Lib.hid hat
  have D0 := Lib.hid (fun W => iwakes_calls W)
  have HE := Lib.hid (fun W => event_calls x W fx.name)
  have HR := Lib.hid (fun W h => readevent_calls bs a cap W h hbl hcm)
  have HQ : Hid (∀ (W : World) (y : EvR), (binOp .neq 33 (.agg #[.int .i64 y.kind, .int .i64 y.acct, .int .i64 y.id, .int .i64 y.new, .int .i64 y.instr, .int .i64 y.under, .int .i64 y.cur, .int .i64 y.qty, .int .i64 y.price, .int .i64 y.amount, .bool y.call, .string ⟨y.name.toArray⟩]) (.agg #[.int .i64 x.kind, .int .i64 x.acct, .int .i64 x.id, .int .i64 x.new, .int .i64 x.instr, .int .i64 x.under, .int .i64 x.cur, .int .i64 x.qty, .int .i64 x.price, .int .i64 x.amount, .bool x.call, .string ⟨x.name.toArray⟩])).run Tryd.prog W = .ok (.bool (!decide (y = x))) W) := fun W y => neq_ev2 W y x
  have HZ : Hid (∀ (W : World), (binOp .eql 33 (.agg #[.int .i64 0, .int .i64 0, .int .i64 0, .int .i64 0, .int .i64 0, .int .i64 0, .int .i64 0, .int .i64 0, .int .i64 0, .int .i64 0, .bool false, .string ⟨#[]⟩]) (.agg #[.int .i64 0, .int .i64 0, .int .i64 0, .int .i64 0, .int .i64 0, .int .i64 0, .int .i64 0, .int .i64 0, .int .i64 0, .int .i64 0, .bool false, .string ⟨#[]⟩])).run Tryd.prog W = .ok (.bool true) W) := fun W => by have := eql_ev2 W zeroE zeroE; simpa [zeroE] using this
  have HBK : Hid (∀ y, readE bs = (y, 0) → eventF y = (bs, 0) ∧ y.name.length ≤ 140737488351232) := fun y h => readE_back h
  have HNZ : Hid ((readE bs).2 ≠ 0 → (readE bs).1 = zeroE) := fun h => readE_zero h
  have z3 := Lib.hid (event_size x)
  clear hat
  unfold evV at HE HR ⊢
  generalize readE bs = q at HR HBK HNZ
  obtain ⟨y, kq⟩ := q
  simp only at HR HNZ
  go_enter Tryd.func5, Tryd.ntmps5
  go_upto_region 1 with fail
  generalize w.alloc (.cells #[.int .i64 x.kind, .int .i64 x.acct, .int .i64 x.id, .int .i64 x.new, .int .i64 x.instr, .int .i64 x.under, .int .i64 x.cur, .int .i64 x.qty, .int .i64 x.price, .int .i64 x.amount, .bool x.call, .string ⟨x.name.toArray⟩] 33) = w0 at *
  have XH := Lib.hid X
  clear X
  rcases event_two x with ex | ⟨c1, ex, hc1⟩
  · rw [ex] at HE z3
    have HC : Hid (readE (encE x) = (x, 0) ∧ (∀ i, i < (encE x).length → readE ((encE x).take i) = (zeroE, 10)) ∧ readE (encE x ++ [0]) = (zeroE, 13)) := readE_enc fx ex
    have hn96 : 96 ≤ (encE x).length := encE_min x
    have hn104 : (encE x).length ≤ 104 := encE_max ex
    simp only at HE z3
    clear ex
    generalize encE x = en at *
    go_upto_region 4 with (first | (go_at_call 11; refine (HE.out _).mono ?_; rintro e w2 ⟨o2, rfl, own2, b2⟩) | (go_at_call 7; refine (D0.out _).mono ?_; rintro e w1 ⟨rfl, b1⟩; have X1 := Lib.hid (XH.out.keep b1); have k0 : w1.cell? ⟨w.heap.size, 0, none⟩ = some (.int .i64 x.kind) := X1.out.ev.cell 0; have k1 : w1.cell? ⟨w.heap.size, 1, none⟩ = some (.int .i64 x.acct) := X1.out.ev.cell 1; have k2 : w1.cell? ⟨w.heap.size, 2, none⟩ = some (.int .i64 x.id) := X1.out.ev.cell 2; have k3 : w1.cell? ⟨w.heap.size, 3, none⟩ = some (.int .i64 x.new) := X1.out.ev.cell 3; have k4 : w1.cell? ⟨w.heap.size, 4, none⟩ = some (.int .i64 x.instr) := X1.out.ev.cell 4; have k5 : w1.cell? ⟨w.heap.size, 5, none⟩ = some (.int .i64 x.under) := X1.out.ev.cell 5; have k6 : w1.cell? ⟨w.heap.size, 6, none⟩ = some (.int .i64 x.cur) := X1.out.ev.cell 6; have k7 : w1.cell? ⟨w.heap.size, 7, none⟩ = some (.int .i64 x.qty) := X1.out.ev.cell 7; have k8 : w1.cell? ⟨w.heap.size, 8, none⟩ = some (.int .i64 x.price) := X1.out.ev.cell 8; have k9 : w1.cell? ⟨w.heap.size, 9, none⟩ = some (.int .i64 x.amount) := X1.out.ev.cell 9; have k10 : w1.cell? ⟨w.heap.size, 10, none⟩ = some (.bool x.call) := X1.out.ev.cell 10; have k11 : w1.cell? ⟨w.heap.size, 11, none⟩ = some (.string ⟨x.name.toArray⟩) := X1.out.ev.cell 11))
    have X2 := Lib.hid (X1.out.keep b2)
    obtain ⟨a2, c2, rfl, hc2, hl2, at2, _, hno2⟩ := at_of_owns own2
    have A2 := Lib.hid at2
    obtain ⟨p2, rfl⟩ : ∃ p, a2 = some p := by
      cases a2 with
      | none => have := hno2 rfl; omega
      | some p => exact ⟨p, rfl⟩
    have HT : Hid (∀ (W : World) (i : Nat), i ≤ en.length → At W (some p2) (u8s en) → Calls Tryd.prog 15 #[.slice (some p2) i c2] W fun e w' => e = .returned (.tuple #[evV (readE (en.take i)).1, .int .i64 (readE (en.take i)).2]) ∧ Below W.heap.size W w') := fun W i hi h => readevent_take en (some p2) c2 W h i hi hl2 hc2
    have HF : Hid (∀ (W : World), At W (some p2) (u8s en) → Calls Tryd.prog 15 #[.slice (some p2) en.length c2] W fun e w' => e = .returned (.tuple #[.agg #[.int .i64 x.kind, .int .i64 x.acct, .int .i64 x.id, .int .i64 x.new, .int .i64 x.instr, .int .i64 x.under, .int .i64 x.cur, .int .i64 x.qty, .int .i64 x.price, .int .i64 x.amount, .bool x.call, .string ⟨x.name.toArray⟩], .int .i64 0]) ∧ Below W.heap.size W w') := fun W h => by
      have h1 := HT.out W en.length (Nat.le_refl _) h
      rwa [List.take_length, HC.out.1] at h1
    have HTL := Lib.hid (fun W a c h h1 h2 => readevent_tail en a c W h h1 h2)
    rw [HC.out.2.2] at HTL
    unfold evV zeroE at HTL
    clear k0 k1 k2 k3 k4 k5 k6 k7 k8 k9 k10 k11 X1 b2 own2 HE D0 XH at2 hno2
    go_upto_region 6 with (first | (go_at_call 15; refine (HF.out _ A2.out).mono ?_; rintro e w3 ⟨rfl, b3⟩; have HB7 := Box.new w3 33 #[.int .i64 0, .int .i64 0, .int .i64 0, .int .i64 0, .int .i64 0, .int .i64 0, .int .i64 0, .int .i64 0, .int .i64 0, .int .i64 0, .bool false, .string ⟨#[]⟩]) | ((with_reducible refine wpList_store_box rfl 33 (.tmp 7) (.tmp 25) rfl #[.int .i64 x.kind, .int .i64 x.acct, .int .i64 x.id, .int .i64 x.new, .int .i64 x.instr, .int .i64 x.under, .int .i64 x.cur, .int .i64 x.qty, .int .i64 x.price, .int .i64 x.amount, .bool x.call, .string ⟨x.name.toArray⟩] HB7 ?_ ?_ ?_ ?_ ?_ ?_); (· kernel_rfl); (· rfl); (· simp [Value.oneCell']); (· rfl); (· rfl)))
    have b4 : Below w3.heap.size w3 ((w3.alloc (.cells #[.int .i64 0, .int .i64 0, .int .i64 0, .int .i64 0, .int .i64 0, .int .i64 0, .int .i64 0, .int .i64 0, .int .i64 0, .int .i64 0, .bool false, .string ⟨#[]⟩] 33)).setRow w3.heap.size #[.int .i64 x.kind, .int .i64 x.acct, .int .i64 x.id, .int .i64 x.new, .int .i64 x.instr, .int .i64 x.under, .int .i64 x.cur, .int .i64 x.qty, .int .i64 x.price, .int .i64 x.amount, .bool x.call, .string ⟨x.name.toArray⟩]) := below_setRow ((Below.refl _ _).alloc (Nat.le_refl _) _) (Nat.le_refl _) _
    have X4 := Lib.hid ((X2.out.keep b3).keep b4)
    have A4 := Lib.hid ((A2.out.keep b3).keep b4)
    have Y4 : Box ((w3.alloc (.cells #[.int .i64 0, .int .i64 0, .int .i64 0, .int .i64 0, .int .i64 0, .int .i64 0, .int .i64 0, .int .i64 0, .int .i64 0, .int .i64 0, .bool false, .string ⟨#[]⟩] 33)).setRow w3.heap.size #[.int .i64 x.kind, .int .i64 x.acct, .int .i64 x.id, .int .i64 x.new, .int .i64 x.instr, .int .i64 x.under, .int .i64 x.cur, .int .i64 x.qty, .int .i64 x.price, .int .i64 x.amount, .bool x.call, .string ⟨x.name.toArray⟩]) w3.heap.size 33 #[.int .i64 x.kind, .int .i64 x.acct, .int .i64 x.id, .int .i64 x.new, .int .i64 x.instr, .int .i64 x.under, .int .i64 x.cur, .int .i64 x.qty, .int .i64 x.price, .int .i64 x.amount, .bool x.call, .string ⟨x.name.toArray⟩] := HB7.row _
    have hq : ∀ W : World, (binOp .neq 33 (.agg #[.int .i64 x.kind, .int .i64 x.acct, .int .i64 x.id, .int .i64 x.new, .int .i64 x.instr, .int .i64 x.under, .int .i64 x.cur, .int .i64 x.qty, .int .i64 x.price, .int .i64 x.amount, .bool x.call, .string ⟨x.name.toArray⟩]) (.agg #[.int .i64 x.kind, .int .i64 x.acct, .int .i64 x.id, .int .i64 x.new, .int .i64 x.instr, .int .i64 x.under, .int .i64 x.cur, .int .i64 x.qty, .int .i64 x.price, .int .i64 x.amount, .bool x.call, .string ⟨x.name.toArray⟩])).run Tryd.prog W = .ok (.bool false) W := fun W => by have := HQ.out W x; simpa using this
    clear X2 A2 b3 b4 HB7 HF
    generalize (w3.alloc (.cells #[.int .i64 0, .int .i64 0, .int .i64 0, .int .i64 0, .int .i64 0, .int .i64 0, .int .i64 0, .int .i64 0, .int .i64 0, .int .i64 0, .bool false, .string ⟨#[]⟩] 33)).setRow w3.heap.size #[.int .i64 x.kind, .int .i64 x.acct, .int .i64 x.id, .int .i64 x.new, .int .i64 x.instr, .int .i64 x.under, .int .i64 x.cur, .int .i64 x.qty, .int .i64 x.price, .int .i64 x.amount, .bool x.call, .string ⟨x.name.toArray⟩] = w4 at *
    generalize w3.heap.size = g7 at *
    have k0 : w4.cell? ⟨w.heap.size, 0, none⟩ = some (.int .i64 x.kind) := X4.out.ev.cell 0
    have k1 : w4.cell? ⟨w.heap.size, 1, none⟩ = some (.int .i64 x.acct) := X4.out.ev.cell 1
    have k2 : w4.cell? ⟨w.heap.size, 2, none⟩ = some (.int .i64 x.id) := X4.out.ev.cell 2
    have k3 : w4.cell? ⟨w.heap.size, 3, none⟩ = some (.int .i64 x.new) := X4.out.ev.cell 3
    have k4 : w4.cell? ⟨w.heap.size, 4, none⟩ = some (.int .i64 x.instr) := X4.out.ev.cell 4
    have k5 : w4.cell? ⟨w.heap.size, 5, none⟩ = some (.int .i64 x.under) := X4.out.ev.cell 5
    have k6 : w4.cell? ⟨w.heap.size, 6, none⟩ = some (.int .i64 x.cur) := X4.out.ev.cell 6
    have k7 : w4.cell? ⟨w.heap.size, 7, none⟩ = some (.int .i64 x.qty) := X4.out.ev.cell 7
    have k8 : w4.cell? ⟨w.heap.size, 8, none⟩ = some (.int .i64 x.price) := X4.out.ev.cell 8
    have k9 : w4.cell? ⟨w.heap.size, 9, none⟩ = some (.int .i64 x.amount) := X4.out.ev.cell 9
    have k10 : w4.cell? ⟨w.heap.size, 10, none⟩ = some (.bool x.call) := X4.out.ev.cell 10
    have k11 : w4.cell? ⟨w.heap.size, 11, none⟩ = some (.string ⟨x.name.toArray⟩) := X4.out.ev.cell 11
    have m0 : w4.cell? ⟨g7, 0, none⟩ = some (.int .i64 x.kind) := Y4.cell 0
    have m1 : w4.cell? ⟨g7, 1, none⟩ = some (.int .i64 x.acct) := Y4.cell 1
    have m2 : w4.cell? ⟨g7, 2, none⟩ = some (.int .i64 x.id) := Y4.cell 2
    have m3 : w4.cell? ⟨g7, 3, none⟩ = some (.int .i64 x.new) := Y4.cell 3
    have m4 : w4.cell? ⟨g7, 4, none⟩ = some (.int .i64 x.instr) := Y4.cell 4
    have m5 : w4.cell? ⟨g7, 5, none⟩ = some (.int .i64 x.under) := Y4.cell 5
    have m6 : w4.cell? ⟨g7, 6, none⟩ = some (.int .i64 x.cur) := Y4.cell 6
    have m7 : w4.cell? ⟨g7, 7, none⟩ = some (.int .i64 x.qty) := Y4.cell 7
    have m8 : w4.cell? ⟨g7, 8, none⟩ = some (.int .i64 x.price) := Y4.cell 8
    have m9 : w4.cell? ⟨g7, 9, none⟩ = some (.int .i64 x.amount) := Y4.cell 9
    have m10 : w4.cell? ⟨g7, 10, none⟩ = some (.bool x.call) := Y4.cell 10
    have m11 : w4.cell? ⟨g7, 11, none⟩ = some (.string ⟨x.name.toArray⟩) := Y4.cell 11
    clear Y4
    go_upto_region 8 with fail
    clear k0 k1 k2 k3 k4 k5 k6 k7 k8 k9 k10 k11 m0 m1 m2 m3 m4 m5 m6 m7 m8 m9 m10 m11 hq
    go_wp2_with fail
    go_loopw [8, 9] (fun f i wr => ∃ (k : Nat) (c : Int), k ≤ en.length ∧ i = .int .i64 k ∧ f = .int .i64 c ∧ EB w wr x ∧ At wr (some p2) (u8s en)) (fun _ i _ => en.length - (intOf i).toNat)
    case atStart => exact ⟨0, 0, by omega, rfl, rfl, X4.out, A4.out⟩
    case round =>
      clear X4 A4
      obtain ⟨k, c, hk, rfl, rfl, X5, A5⟩ := hrel
      have XX := Lib.hid X5
      have AA := Lib.hid A5
      clear X5 A5
      have hz := z3.out
      by_cases hlt : k < en.length
      · have HTk := Lib.hid (fun W h => HT.out W k hk h)
        rw [HC.out.2.1 k hlt] at HTk
        unfold evV zeroE at HTk
        go_wp2_with (go_at_call 15; refine (HTk.out _ AA.out).mono ?_; rintro e w6 ⟨rfl, b6⟩)
        go_roundw
        case rel => exact ⟨k + 1, 10, by omega, by go_num, rfl, XX.out.keep b6, AA.out.keep b6⟩
        case measure => simp [intOf]; omega
      · obtain rfl : k = en.length := by omega
        clear hk HT
        go_upto_region 14 with fail
        have hzr : w.heap.size + 1 ≤ wr.heap.size := XX.out.ev.lt
        go_upto_region 15 with (first | (at_builtin; refine wpList_append_at _ rfl (.tmp 52) (.tmp 53) elem8 rfl (w.heap.size + 1) v7 en.length (u8s en) rfl (owns_below own7 ((Below.refl _ _).alloc (Nat.le_refl _) _)) (some ⟨w7.heap.size, 0, none⟩) 1 1 [.int .u8 0] rfl rfl (at_alloc w7 #[.int .u8 0] _ _) (by simp [Value.oneCell']) (by unfold maxLen; omega) (by omega) (by simp; omega) ?_; intro v8 w8 own8 b8 _ _; obtain ⟨a8, c8, rfl, hc8, hl8, at8, _, _⟩ := at_of_owns own8; have A8 := Lib.hid at8; have X8 : Hid (EB w w8 x) := (XX.out.keepB b7).keepB (((Below.refl _ _).alloc (by omega) _).trans b8)) | (at_builtin; refine wpList_append_at _ rfl (.tmp 50) (.tmp 51) elem8 rfl (w.heap.size + 1) (.slice (some ⟨wr.heap.size, 0, none⟩) 0 0) 0 [] rfl (World.ownsRow_made _ _ _ (by omega) (by unfold maxLen; omega) rfl) (some p2) en.length c2 (u8s en) rfl (by rw [u8s_len]; omega) (AA.out.keep ((Below.refl _ _).alloc (Nat.le_refl _) _)) (one_u8 en) (by unfold maxLen; omega) (by omega) (by simp; omega) ?_; intro v7 w7 own7 bb7 _ _; have b7 : Below (w.heap.size + 1) wr w7 := ((Below.refl _ _).alloc (by omega) _).trans bb7; have hz7 := b7.size; simp only [Nat.zero_add, List.nil_append] at own7) | (go_at_call 15; refine (HTL.out _ _ _ A8.out hl8 hc8).mono ?_; rintro e w9 ⟨rfl, b9⟩))
        have X9 := Lib.hid (X8.out.keep b9)
        clear X8 A8 b9 XX AA HTL HC
        by_cases hk : kq = 0
        · subst hk
          obtain ⟨hev, hny⟩ := HBK.out y rfl
          have HE2 := Lib.hid (fun W => event_calls y W hny)
          rw [hev] at HE2
          unfold evV at HE2
          clear hev hny HNZ HBK HZ
          go_upto_region 18 with (first | (go_at_call 15; refine (HR.out _ (HAT.out.keep X9.out.low)).mono ?_; rintro e w10 ⟨rfl, b10⟩; have HB10 := Box.new w10 33 #[.int .i64 0, .int .i64 0, .int .i64 0, .int .i64 0, .int .i64 0, .int .i64 0, .int .i64 0, .int .i64 0, .int .i64 0, .int .i64 0, .bool false, .string ⟨#[]⟩]) | ((with_reducible refine wpList_store_box rfl 33 (.tmp 10) (.tmp 63) rfl #[.int .i64 y.kind, .int .i64 y.acct, .int .i64 y.id, .int .i64 y.new, .int .i64 y.instr, .int .i64 y.under, .int .i64 y.cur, .int .i64 y.qty, .int .i64 y.price, .int .i64 y.amount, .bool y.call, .string ⟨y.name.toArray⟩] HB10 ?_ ?_ ?_ ?_ ?_ ?_); (· kernel_rfl); (· rfl); (· simp [Value.oneCell']); (· rfl); (· rfl)))
          have b11 : Below w10.heap.size w10 ((w10.alloc (.cells #[.int .i64 0, .int .i64 0, .int .i64 0, .int .i64 0, .int .i64 0, .int .i64 0, .int .i64 0, .int .i64 0, .int .i64 0, .int .i64 0, .bool false, .string ⟨#[]⟩] 33)).setRow w10.heap.size #[.int .i64 y.kind, .int .i64 y.acct, .int .i64 y.id, .int .i64 y.new, .int .i64 y.instr, .int .i64 y.under, .int .i64 y.cur, .int .i64 y.qty, .int .i64 y.price, .int .i64 y.amount, .bool y.call, .string ⟨y.name.toArray⟩]) := below_setRow ((Below.refl _ _).alloc (Nat.le_refl _) _) (Nat.le_refl _) _
          have X11 := Lib.hid ((X9.out.keep b10).keep b11)
          have Y11 : Box ((w10.alloc (.cells #[.int .i64 0, .int .i64 0, .int .i64 0, .int .i64 0, .int .i64 0, .int .i64 0, .int .i64 0, .int .i64 0, .int .i64 0, .int .i64 0, .bool false, .string ⟨#[]⟩] 33)).setRow w10.heap.size #[.int .i64 y.kind, .int .i64 y.acct, .int .i64 y.id, .int .i64 y.new, .int .i64 y.instr, .int .i64 y.under, .int .i64 y.cur, .int .i64 y.qty, .int .i64 y.price, .int .i64 y.amount, .bool y.call, .string ⟨y.name.toArray⟩]) w10.heap.size 33 #[.int .i64 y.kind, .int .i64 y.acct, .int .i64 y.id, .int .i64 y.new, .int .i64 y.instr, .int .i64 y.under, .int .i64 y.cur, .int .i64 y.qty, .int .i64 y.price, .int .i64 y.amount, .bool y.call, .string ⟨y.name.toArray⟩] := HB10.row _
          have AB := Lib.hid (HAT.out.keep X11.out.low)
          clear b10 b11 HB10 X9 HR HAT
          generalize (w10.alloc (.cells #[.int .i64 0, .int .i64 0, .int .i64 0, .int .i64 0, .int .i64 0, .int .i64 0, .int .i64 0, .int .i64 0, .int .i64 0, .int .i64 0, .bool false, .string ⟨#[]⟩] 33)).setRow w10.heap.size #[.int .i64 y.kind, .int .i64 y.acct, .int .i64 y.id, .int .i64 y.new, .int .i64 y.instr, .int .i64 y.under, .int .i64 y.cur, .int .i64 y.qty, .int .i64 y.price, .int .i64 y.amount, .bool y.call, .string ⟨y.name.toArray⟩] = w11 at *
          generalize w10.heap.size = g10 at *
          have m0 : w11.cell? ⟨g10, 0, none⟩ = some (.int .i64 y.kind) := Y11.cell 0
          have m1 : w11.cell? ⟨g10, 1, none⟩ = some (.int .i64 y.acct) := Y11.cell 1
          have m2 : w11.cell? ⟨g10, 2, none⟩ = some (.int .i64 y.id) := Y11.cell 2
          have m3 : w11.cell? ⟨g10, 3, none⟩ = some (.int .i64 y.new) := Y11.cell 3
          have m4 : w11.cell? ⟨g10, 4, none⟩ = some (.int .i64 y.instr) := Y11.cell 4
          have m5 : w11.cell? ⟨g10, 5, none⟩ = some (.int .i64 y.under) := Y11.cell 5
          have m6 : w11.cell? ⟨g10, 6, none⟩ = some (.int .i64 y.cur) := Y11.cell 6
          have m7 : w11.cell? ⟨g10, 7, none⟩ = some (.int .i64 y.qty) := Y11.cell 7
          have m8 : w11.cell? ⟨g10, 8, none⟩ = some (.int .i64 y.price) := Y11.cell 8
          have m9 : w11.cell? ⟨g10, 9, none⟩ = some (.int .i64 y.amount) := Y11.cell 9
          have m10 : w11.cell? ⟨g10, 10, none⟩ = some (.bool y.call) := Y11.cell 10
          have m11 : w11.cell? ⟨g10, 11, none⟩ = some (.string ⟨y.name.toArray⟩) := Y11.cell 11
          clear Y11
          go_upto_region 21 with (go_at_call 11; refine (HE2.out _).mono ?_; rintro e w12 ⟨o12, rfl, own12, b12⟩)
          obtain ⟨a12, c12, rfl, _, _, at12, _, _⟩ := at_of_owns own12
          have S := Lib.hid (isame_calls a12 a c12 cap bs bs w12 (by omega) (by omega) at12 (AB.out.keep b12))
          have X12 := Lib.hid (X11.out.keep b12)
          simp only [decide_true] at S
          clear m0 m1 m2 m3 m4 m5 m6 m7 m8 m9 m10 m11 own12 b12 at12 AB X11 HE2
          go_wp2_with (go_at_call 13; refine S.out.mono ?_; rintro e w13 ⟨rfl, hn13⟩)
          go_ret
          exact ⟨rfl, (X12.out.keep (bel_of hn13)).low⟩
        · obtain rfl := HNZ.out hk
          simp only [zeroE] at HR
          have hkb : (kq == 0) = false := by simpa using hk
          have hz := HZ.out
          clear hk HNZ HBK HZ
          go_upto_region 18 with (first | (go_at_call 15; refine (HR.out _ (HAT.out.keep X9.out.low)).mono ?_; rintro e w10 ⟨rfl, b10⟩; have HB10 := Box.new w10 33 #[.int .i64 0, .int .i64 0, .int .i64 0, .int .i64 0, .int .i64 0, .int .i64 0, .int .i64 0, .int .i64 0, .int .i64 0, .int .i64 0, .bool false, .string ⟨#[]⟩]) | ((with_reducible refine wpList_store_box rfl 33 (.tmp 10) (.tmp 63) rfl #[.int .i64 0, .int .i64 0, .int .i64 0, .int .i64 0, .int .i64 0, .int .i64 0, .int .i64 0, .int .i64 0, .int .i64 0, .int .i64 0, .bool false, .string ⟨#[]⟩] HB10 ?_ ?_ ?_ ?_ ?_ ?_); (· kernel_rfl); (· rfl); (· simp [Value.oneCell']); (· rfl); (· rfl)))
          have b11 : Below w10.heap.size w10 ((w10.alloc (.cells #[.int .i64 0, .int .i64 0, .int .i64 0, .int .i64 0, .int .i64 0, .int .i64 0, .int .i64 0, .int .i64 0, .int .i64 0, .int .i64 0, .bool false, .string ⟨#[]⟩] 33)).setRow w10.heap.size #[.int .i64 0, .int .i64 0, .int .i64 0, .int .i64 0, .int .i64 0, .int .i64 0, .int .i64 0, .int .i64 0, .int .i64 0, .int .i64 0, .bool false, .string ⟨#[]⟩]) := below_setRow ((Below.refl _ _).alloc (Nat.le_refl _) _) (Nat.le_refl _) _
          have X11 := Lib.hid ((X9.out.keep b10).keep b11)
          have Y11 : Box ((w10.alloc (.cells #[.int .i64 0, .int .i64 0, .int .i64 0, .int .i64 0, .int .i64 0, .int .i64 0, .int .i64 0, .int .i64 0, .int .i64 0, .int .i64 0, .bool false, .string ⟨#[]⟩] 33)).setRow w10.heap.size #[.int .i64 0, .int .i64 0, .int .i64 0, .int .i64 0, .int .i64 0, .int .i64 0, .int .i64 0, .int .i64 0, .int .i64 0, .int .i64 0, .bool false, .string ⟨#[]⟩]) w10.heap.size 33 #[.int .i64 0, .int .i64 0, .int .i64 0, .int .i64 0, .int .i64 0, .int .i64 0, .int .i64 0, .int .i64 0, .int .i64 0, .int .i64 0, .bool false, .string ⟨#[]⟩] := HB10.row _
          have AB := Lib.hid (HAT.out.keep X11.out.low)
          clear b10 b11 HB10 X9 HR HAT
          generalize (w10.alloc (.cells #[.int .i64 0, .int .i64 0, .int .i64 0, .int .i64 0, .int .i64 0, .int .i64 0, .int .i64 0, .int .i64 0, .int .i64 0, .int .i64 0, .bool false, .string ⟨#[]⟩] 33)).setRow w10.heap.size #[.int .i64 0, .int .i64 0, .int .i64 0, .int .i64 0, .int .i64 0, .int .i64 0, .int .i64 0, .int .i64 0, .int .i64 0, .int .i64 0, .bool false, .string ⟨#[]⟩] = w11 at *
          generalize w10.heap.size = g10 at *
          have m0 : w11.cell? ⟨g10, 0, none⟩ = some (.int .i64 0) := Y11.cell 0
          have m1 : w11.cell? ⟨g10, 1, none⟩ = some (.int .i64 0) := Y11.cell 1
          have m2 : w11.cell? ⟨g10, 2, none⟩ = some (.int .i64 0) := Y11.cell 2
          have m3 : w11.cell? ⟨g10, 3, none⟩ = some (.int .i64 0) := Y11.cell 3
          have m4 : w11.cell? ⟨g10, 4, none⟩ = some (.int .i64 0) := Y11.cell 4
          have m5 : w11.cell? ⟨g10, 5, none⟩ = some (.int .i64 0) := Y11.cell 5
          have m6 : w11.cell? ⟨g10, 6, none⟩ = some (.int .i64 0) := Y11.cell 6
          have m7 : w11.cell? ⟨g10, 7, none⟩ = some (.int .i64 0) := Y11.cell 7
          have m8 : w11.cell? ⟨g10, 8, none⟩ = some (.int .i64 0) := Y11.cell 8
          have m9 : w11.cell? ⟨g10, 9, none⟩ = some (.int .i64 0) := Y11.cell 9
          have m10 : w11.cell? ⟨g10, 10, none⟩ = some (.bool false) := Y11.cell 10
          have m11 : w11.cell? ⟨g10, 11, none⟩ = some (.string ⟨#[]⟩) := Y11.cell 11
          clear Y11
          go_wp2_with fail
          go_ret
          exact ⟨rfl, X11.out.low⟩
  · rw [ex] at HE
    simp only [List.length_nil] at HE
    clear ex z3
    go_upto_region 4 with (first | (go_at_call 11; refine (HE.out _).mono ?_; rintro e w2 ⟨o2, rfl, own2, b2⟩; have X9 := Lib.hid (X1.out.keep b2)) | (go_at_call 7; refine (D0.out _).mono ?_; rintro e w1 ⟨rfl, b1⟩; have X1 := Lib.hid (XH.out.keep b1); have k0 : w1.cell? ⟨w.heap.size, 0, none⟩ = some (.int .i64 x.kind) := X1.out.ev.cell 0; have k1 : w1.cell? ⟨w.heap.size, 1, none⟩ = some (.int .i64 x.acct) := X1.out.ev.cell 1; have k2 : w1.cell? ⟨w.heap.size, 2, none⟩ = some (.int .i64 x.id) := X1.out.ev.cell 2; have k3 : w1.cell? ⟨w.heap.size, 3, none⟩ = some (.int .i64 x.new) := X1.out.ev.cell 3; have k4 : w1.cell? ⟨w.heap.size, 4, none⟩ = some (.int .i64 x.instr) := X1.out.ev.cell 4; have k5 : w1.cell? ⟨w.heap.size, 5, none⟩ = some (.int .i64 x.under) := X1.out.ev.cell 5; have k6 : w1.cell? ⟨w.heap.size, 6, none⟩ = some (.int .i64 x.cur) := X1.out.ev.cell 6; have k7 : w1.cell? ⟨w.heap.size, 7, none⟩ = some (.int .i64 x.qty) := X1.out.ev.cell 7; have k8 : w1.cell? ⟨w.heap.size, 8, none⟩ = some (.int .i64 x.price) := X1.out.ev.cell 8; have k9 : w1.cell? ⟨w.heap.size, 9, none⟩ = some (.int .i64 x.amount) := X1.out.ev.cell 9; have k10 : w1.cell? ⟨w.heap.size, 10, none⟩ = some (.bool x.call) := X1.out.ev.cell 10; have k11 : w1.cell? ⟨w.heap.size, 11, none⟩ = some (.string ⟨x.name.toArray⟩) := X1.out.ev.cell 11))
    clear k0 k1 k2 k3 k4 k5 k6 k7 k8 k9 k10 k11 X1 b2 own2 HE D0 XH
    by_cases hk : kq = 0
    · subst hk
      obtain ⟨hev, hny⟩ := HBK.out y rfl
      have HE2 := Lib.hid (fun W => event_calls y W hny)
      rw [hev] at HE2
      unfold evV at HE2
      clear hev hny HNZ HBK HZ
      go_upto_region 18 with (first | (go_at_call 15; refine (HR.out _ (HAT.out.keep X9.out.low)).mono ?_; rintro e w10 ⟨rfl, b10⟩; have HB10 := Box.new w10 33 #[.int .i64 0, .int .i64 0, .int .i64 0, .int .i64 0, .int .i64 0, .int .i64 0, .int .i64 0, .int .i64 0, .int .i64 0, .int .i64 0, .bool false, .string ⟨#[]⟩]) | ((with_reducible refine wpList_store_box rfl 33 (.tmp 10) (.tmp 63) rfl #[.int .i64 y.kind, .int .i64 y.acct, .int .i64 y.id, .int .i64 y.new, .int .i64 y.instr, .int .i64 y.under, .int .i64 y.cur, .int .i64 y.qty, .int .i64 y.price, .int .i64 y.amount, .bool y.call, .string ⟨y.name.toArray⟩] HB10 ?_ ?_ ?_ ?_ ?_ ?_); (· kernel_rfl); (· rfl); (· simp [Value.oneCell']); (· rfl); (· rfl)))
      have b11 : Below w10.heap.size w10 ((w10.alloc (.cells #[.int .i64 0, .int .i64 0, .int .i64 0, .int .i64 0, .int .i64 0, .int .i64 0, .int .i64 0, .int .i64 0, .int .i64 0, .int .i64 0, .bool false, .string ⟨#[]⟩] 33)).setRow w10.heap.size #[.int .i64 y.kind, .int .i64 y.acct, .int .i64 y.id, .int .i64 y.new, .int .i64 y.instr, .int .i64 y.under, .int .i64 y.cur, .int .i64 y.qty, .int .i64 y.price, .int .i64 y.amount, .bool y.call, .string ⟨y.name.toArray⟩]) := below_setRow ((Below.refl _ _).alloc (Nat.le_refl _) _) (Nat.le_refl _) _
      have X11 := Lib.hid ((X9.out.keep b10).keep b11)
      have Y11 : Box ((w10.alloc (.cells #[.int .i64 0, .int .i64 0, .int .i64 0, .int .i64 0, .int .i64 0, .int .i64 0, .int .i64 0, .int .i64 0, .int .i64 0, .int .i64 0, .bool false, .string ⟨#[]⟩] 33)).setRow w10.heap.size #[.int .i64 y.kind, .int .i64 y.acct, .int .i64 y.id, .int .i64 y.new, .int .i64 y.instr, .int .i64 y.under, .int .i64 y.cur, .int .i64 y.qty, .int .i64 y.price, .int .i64 y.amount, .bool y.call, .string ⟨y.name.toArray⟩]) w10.heap.size 33 #[.int .i64 y.kind, .int .i64 y.acct, .int .i64 y.id, .int .i64 y.new, .int .i64 y.instr, .int .i64 y.under, .int .i64 y.cur, .int .i64 y.qty, .int .i64 y.price, .int .i64 y.amount, .bool y.call, .string ⟨y.name.toArray⟩] := HB10.row _
      have AB := Lib.hid (HAT.out.keep X11.out.low)
      clear b10 b11 HB10 X9 HR HAT
      generalize (w10.alloc (.cells #[.int .i64 0, .int .i64 0, .int .i64 0, .int .i64 0, .int .i64 0, .int .i64 0, .int .i64 0, .int .i64 0, .int .i64 0, .int .i64 0, .bool false, .string ⟨#[]⟩] 33)).setRow w10.heap.size #[.int .i64 y.kind, .int .i64 y.acct, .int .i64 y.id, .int .i64 y.new, .int .i64 y.instr, .int .i64 y.under, .int .i64 y.cur, .int .i64 y.qty, .int .i64 y.price, .int .i64 y.amount, .bool y.call, .string ⟨y.name.toArray⟩] = w11 at *
      generalize w10.heap.size = g10 at *
      have m0 : w11.cell? ⟨g10, 0, none⟩ = some (.int .i64 y.kind) := Y11.cell 0
      have m1 : w11.cell? ⟨g10, 1, none⟩ = some (.int .i64 y.acct) := Y11.cell 1
      have m2 : w11.cell? ⟨g10, 2, none⟩ = some (.int .i64 y.id) := Y11.cell 2
      have m3 : w11.cell? ⟨g10, 3, none⟩ = some (.int .i64 y.new) := Y11.cell 3
      have m4 : w11.cell? ⟨g10, 4, none⟩ = some (.int .i64 y.instr) := Y11.cell 4
      have m5 : w11.cell? ⟨g10, 5, none⟩ = some (.int .i64 y.under) := Y11.cell 5
      have m6 : w11.cell? ⟨g10, 6, none⟩ = some (.int .i64 y.cur) := Y11.cell 6
      have m7 : w11.cell? ⟨g10, 7, none⟩ = some (.int .i64 y.qty) := Y11.cell 7
      have m8 : w11.cell? ⟨g10, 8, none⟩ = some (.int .i64 y.price) := Y11.cell 8
      have m9 : w11.cell? ⟨g10, 9, none⟩ = some (.int .i64 y.amount) := Y11.cell 9
      have m10 : w11.cell? ⟨g10, 10, none⟩ = some (.bool y.call) := Y11.cell 10
      have m11 : w11.cell? ⟨g10, 11, none⟩ = some (.string ⟨y.name.toArray⟩) := Y11.cell 11
      clear Y11
      go_upto_region 21 with (go_at_call 11; refine (HE2.out _).mono ?_; rintro e w12 ⟨o12, rfl, own12, b12⟩)
      obtain ⟨a12, c12, rfl, _, _, at12, _, _⟩ := at_of_owns own12
      have S := Lib.hid (isame_calls a12 a c12 cap bs bs w12 (by omega) (by omega) at12 (AB.out.keep b12))
      have X12 := Lib.hid (X11.out.keep b12)
      simp only [decide_true] at S
      clear m0 m1 m2 m3 m4 m5 m6 m7 m8 m9 m10 m11 own12 b12 at12 AB X11 HE2
      go_wp2_with (go_at_call 13; refine S.out.mono ?_; rintro e w13 ⟨rfl, hn13⟩)
      go_ret
      exact ⟨rfl, (X12.out.keep (bel_of hn13)).low⟩
    · obtain rfl := HNZ.out hk
      simp only [zeroE] at HR
      have hkb : (kq == 0) = false := by simpa using hk
      have hz := HZ.out
      clear hk HNZ HBK HZ
      go_upto_region 18 with (first | (go_at_call 15; refine (HR.out _ (HAT.out.keep X9.out.low)).mono ?_; rintro e w10 ⟨rfl, b10⟩; have HB10 := Box.new w10 33 #[.int .i64 0, .int .i64 0, .int .i64 0, .int .i64 0, .int .i64 0, .int .i64 0, .int .i64 0, .int .i64 0, .int .i64 0, .int .i64 0, .bool false, .string ⟨#[]⟩]) | ((with_reducible refine wpList_store_box rfl 33 (.tmp 10) (.tmp 63) rfl #[.int .i64 0, .int .i64 0, .int .i64 0, .int .i64 0, .int .i64 0, .int .i64 0, .int .i64 0, .int .i64 0, .int .i64 0, .int .i64 0, .bool false, .string ⟨#[]⟩] HB10 ?_ ?_ ?_ ?_ ?_ ?_); (· kernel_rfl); (· rfl); (· simp [Value.oneCell']); (· rfl); (· rfl)))
      have b11 : Below w10.heap.size w10 ((w10.alloc (.cells #[.int .i64 0, .int .i64 0, .int .i64 0, .int .i64 0, .int .i64 0, .int .i64 0, .int .i64 0, .int .i64 0, .int .i64 0, .int .i64 0, .bool false, .string ⟨#[]⟩] 33)).setRow w10.heap.size #[.int .i64 0, .int .i64 0, .int .i64 0, .int .i64 0, .int .i64 0, .int .i64 0, .int .i64 0, .int .i64 0, .int .i64 0, .int .i64 0, .bool false, .string ⟨#[]⟩]) := below_setRow ((Below.refl _ _).alloc (Nat.le_refl _) _) (Nat.le_refl _) _
      have X11 := Lib.hid ((X9.out.keep b10).keep b11)
      have Y11 : Box ((w10.alloc (.cells #[.int .i64 0, .int .i64 0, .int .i64 0, .int .i64 0, .int .i64 0, .int .i64 0, .int .i64 0, .int .i64 0, .int .i64 0, .int .i64 0, .bool false, .string ⟨#[]⟩] 33)).setRow w10.heap.size #[.int .i64 0, .int .i64 0, .int .i64 0, .int .i64 0, .int .i64 0, .int .i64 0, .int .i64 0, .int .i64 0, .int .i64 0, .int .i64 0, .bool false, .string ⟨#[]⟩]) w10.heap.size 33 #[.int .i64 0, .int .i64 0, .int .i64 0, .int .i64 0, .int .i64 0, .int .i64 0, .int .i64 0, .int .i64 0, .int .i64 0, .int .i64 0, .bool false, .string ⟨#[]⟩] := HB10.row _
      have AB := Lib.hid (HAT.out.keep X11.out.low)
      clear b10 b11 HB10 X9 HR HAT
      generalize (w10.alloc (.cells #[.int .i64 0, .int .i64 0, .int .i64 0, .int .i64 0, .int .i64 0, .int .i64 0, .int .i64 0, .int .i64 0, .int .i64 0, .int .i64 0, .bool false, .string ⟨#[]⟩] 33)).setRow w10.heap.size #[.int .i64 0, .int .i64 0, .int .i64 0, .int .i64 0, .int .i64 0, .int .i64 0, .int .i64 0, .int .i64 0, .int .i64 0, .int .i64 0, .bool false, .string ⟨#[]⟩] = w11 at *
      generalize w10.heap.size = g10 at *
      have m0 : w11.cell? ⟨g10, 0, none⟩ = some (.int .i64 0) := Y11.cell 0
      have m1 : w11.cell? ⟨g10, 1, none⟩ = some (.int .i64 0) := Y11.cell 1
      have m2 : w11.cell? ⟨g10, 2, none⟩ = some (.int .i64 0) := Y11.cell 2
      have m3 : w11.cell? ⟨g10, 3, none⟩ = some (.int .i64 0) := Y11.cell 3
      have m4 : w11.cell? ⟨g10, 4, none⟩ = some (.int .i64 0) := Y11.cell 4
      have m5 : w11.cell? ⟨g10, 5, none⟩ = some (.int .i64 0) := Y11.cell 5
      have m6 : w11.cell? ⟨g10, 6, none⟩ = some (.int .i64 0) := Y11.cell 6
      have m7 : w11.cell? ⟨g10, 7, none⟩ = some (.int .i64 0) := Y11.cell 7
      have m8 : w11.cell? ⟨g10, 8, none⟩ = some (.int .i64 0) := Y11.cell 8
      have m9 : w11.cell? ⟨g10, 9, none⟩ = some (.int .i64 0) := Y11.cell 9
      have m10 : w11.cell? ⟨g10, 10, none⟩ = some (.bool false) := Y11.cell 10
      have m11 : w11.cell? ⟨g10, 11, none⟩ = some (.string ⟨#[]⟩) := Y11.cell 11
      clear Y11
      go_wp2_with fail
      go_ret
      exact ⟨rfl, X11.out.low⟩

set_option maxRecDepth 100000 in
theorem opened (H : Type) (enc : TypeId × Value → H) (W : World) (base : Nat) (args : Array Value) (ds : List (DataW H)) (p : List MemPlace)
    (hval : ∀ (j : Nat) t v, Tryd.f5.params[j]? = some t → args[j]? = some v → Value.okWide Tryd.prog W .any base t v)
    (hA : DataW.TrodAll enc Tryd.prog W 0 (fun _ => true) true Tryd.f5.params.toList args.toList ds p)
    (hr : ∀ x ∈ DataW.weightsEach Tryd.prog Tryd.f5.params.toList ds, x ≤ reachBytes)
    (hL : laidMetH Tryd.prog Rows.imageEventsRow.laid W) :
    Calls Tryd.prog 5 args W fun e W' => e = .returned (.bool true) ∧ Below W.heap.size W W' := by
  rw [Tryd.params5] at hA hval hr
  have _ := hL
  obtain ⟨v0, vs0, d0, ds0, p0, q0, hargs, rfl, rfl, h0, r0⟩ := trodAll_cons hA
  obtain ⟨v1, vs1, d1, ds1, p1, q1, rfl, rfl, rfl, h1, r1⟩ := trodAll_cons r0
  obtain ⟨rfl, rfl, rfl⟩ := trodAll_nil r1
  obtain rfl : args = #[v0, v1] := by cases args; simp_all
  obtain ⟨x, rfl, hn, hx⟩ := open_evr (hval 0 33 v0 rfl rfl) h0 (fun x hx => hr x (by simp only [DataW.weightsEach, List.mem_append]; exact .inl hx))
  obtain ⟨a, l, cap, rfl, hat, hl, hm, hd⟩ := open_u8 Tryd.underlying36 Tryd.underlying5 cells8 (hval 1 36 v1 rfl rfl) h1
  have hreach := reach_slice (n := l.length) (cap := cap) Tryd.underlying36 hd (fun x hx => hr x (weights_each (i := 1) rfl rfl x hx))
  rw [bytes8] at hreach
  exact walk x ⟨hn, hx⟩ l a cap W hl hm (by omega) hat
end Go.Proofs.YtocjfjikkdpfdaaDoor.imageEvents
