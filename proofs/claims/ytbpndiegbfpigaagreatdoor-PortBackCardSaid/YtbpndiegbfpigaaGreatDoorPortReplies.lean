/- PortReplies: the walk, and the step from the law's arguments to it. -/
import Derived.Test.YtbpndiegbfpigaaGreatDoorPortBackMath
import Derived.Test.YtbpndiegbfpigaaGreatDoorPortEvent
import Derived.Test.YtbpndiegbfpigaaGreatDoorPortReply
import Derived.Test.YtbpndiegbfpigaaGreatDoorPortArg
import Derived.Test.YtbpndiegbfpigaaGreatDoorTagBody
namespace Go.Proofs.YtbpndiegbfpigaaGreatDoor.portReplies
open Go.ChangeShapes Go.WideShapes Go.ChangeAt Go.RowKit Go.Proofs.YtbpndiegbfpigaaGreatDoor.Bas Go.Proofs.YtbpndiegbfpigaaGreatDoor.DecM Go.Proofs.YtbpndiegbfpigaaGreatDoor.FixpM Go.Proofs.YtbpndiegbfpigaaGreatDoor.FixpW Go.Proofs.YtbpndiegbfpigaaGreatDoor.DecW Go.Proofs.YtbpndiegbfpigaaGreatDoor.FldW Go.Proofs.YtbpndiegbfpigaaGreatDoor.PortM Go.Proofs.YtbpndiegbfpigaaGreatDoor.PortW Go.Proofs.YtbpndiegbfpigaaGreatDoor.TagM Go.Proofs.YtbpndiegbfpigaaGreatDoor.TagW

theorem eql_rp (x y : Int) (W : World) : (binOp .eql 37 (.agg #[.int .i64 x, .int .i64 y]) (.agg #[.int .i64 x, .int .i64 y])).run Tryz.prog W = .ok (.bool true) W := by
  simp [go_sem]
theorem pow_laid8 {W : World} (h : laidMetH Tryz.prog [("math/bits.deBruijn32tab", Rows.laid_math_bits_deBruijn32tab), ("math/bits.deBruijn64tab", Rows.laid_math_bits_deBruijn64tab), ("internal/strconv.uint64pow10", Rows.laid_internal_strconv_uint64pow10), ("unicode/utf8.acceptRanges", Rows.laid_unicode_utf8_acceptRanges), ("strconv.ErrRange", Rows.laid_strconv_ErrRange), ("strconv.ErrSyntax", Rows.laid_strconv_ErrSyntax), ("bytes.ErrTooLarge", Rows.laid_bytes_ErrTooLarge), ("unicode/utf8.first", Rows.laid_unicode_utf8_first)] W) : Pow W := by
  have h1 : ∃ ps, DataW.LaidVars Tryz.prog W [("math/bits.deBruijn32tab", Rows.laid_math_bits_deBruijn32tab), ("math/bits.deBruijn64tab", Rows.laid_math_bits_deBruijn64tab), ("internal/strconv.uint64pow10", Rows.laid_internal_strconv_uint64pow10), ("unicode/utf8.acceptRanges", Rows.laid_unicode_utf8_acceptRanges), ("strconv.ErrRange", Rows.laid_strconv_ErrRange), ("strconv.ErrSyntax", Rows.laid_strconv_ErrSyntax), ("bytes.ErrTooLarge", Rows.laid_bytes_ErrTooLarge), ("unicode/utf8.first", Rows.laid_unicode_utf8_first)] ps := laid_vars h
  exact pow_of_laid (laid_tail (laid_tail h1))
theorem at_setRow {w : World} {a : Option Addr} {cs : List Value} (h : At w a cs) {g : Nat} (hne : ∀ b off s, a = some ⟨b, off, s⟩ → b ≠ g) (C : Array Value) : At (w.setRow g C) a cs := by
  intro j v hj
  obtain ⟨b, off, rfl, hc⟩ := h j v hj
  refine ⟨b, off, rfl, ?_⟩
  unfold World.cell? at hc ⊢
  rw [setRow_other w g _ C (hne b off none rfl)]
  exact hc
theorem answerR_bad {c n : Int} (h : ¬ (fits c = true ∧ fits n = true)) : answerR c n = ([], 4) := by unfold answerR; rw [if_neg h]
theorem answerR_ok {c n : Int} (h : fits c = true ∧ fits n = true) : answerR c n = (ansL c n, 0) := by unfold answerR; rw [if_pos h]; rfl
theorem ans_sum {c n : Int} (hc : fits c = true) (hn : fits n = true) : sumL (ansL c n) ≤ 140737488355328 := by
  have k1 := fmt0_len hc
  have k2 := fmt0_len hn
  unfold sumL ansL
  simp
  omega
theorem ans_ok {c n : Int} (hc : fits c = true) (hn : fits n = true) : ∀ f ∈ ansL c n, f.2.length ≤ 140737488351232 := by
  have k1 := fmt0_len hc
  have k2 := fmt0_len hn
  unfold ansL
  intro f hf
  simp at hf
  rcases hf with rfl | rfl | rfl <;> simp <;> omega
set_option maxHeartbeats 2000000 in
set_option maxRecDepth 20000 in
theorem walk (c n : Int) (w : World) (hc : I64 c) (hm : I64 n) (ht : Pow w) :
    Calls Tryz.prog 4 #[.agg #[.int .i64 c, .int .i64 n]] w fun e w' => e = .returned (.bool true) ∧ Below w.heap.size w w' := by
  have HT := Lib.hid ht
  have C0 := Lib.hid (fun W (h : Pow W) => wakes_calls W h)
  have A1 := fun W h => answer_calls c n W hc hm h
  have X0 := Box.new w 37 #[.int .i64 c, .int .i64 n]
  have B0 := (Below.refl w.heap.size w).alloc (Nat.le_refl _) (.cells #[.int .i64 c, .int .i64 n] 37)
  clear ht
  go_enter Tryz.func4, Tryz.ntmps4
  go_upto_region 1 with fail
  generalize w.alloc (.cells #[.int .i64 c, .int .i64 n] 37) = w0 at *
  go_upto_region 3 with (go_at_call 5; refine (C0.out _ (HT.out.keep B0)).mono ?_; rintro e w1 ⟨rfl, b1⟩; have B1 := B0.trans (b1.mono B0.size); have X1 := X0.keep b1; have r0 : w1.cell? ⟨w.heap.size, 0, none⟩ = some (.int .i64 c) := X1.cell 0; have r1 : w1.cell? ⟨w.heap.size, 1, none⟩ = some (.int .i64 n) := X1.cell 1)
  clear C0 B0 X0 b1
  by_cases hf : fits c = true ∧ fits n = true
  · rw [answerR_ok hf] at A1
    have E1 := fun a cap W h => reply_calls (ansL c n) a cap W (ans_ok hf.1 hf.2) (by simp [ansL]) h
    have E2 := fun a cap W h => event_calls (ansL c n) a cap W (by simp [ansL]) (ans_ok hf.1 hf.2) h
    have E3 := fun a cap W h hp => valid_calls (ansL c n) a cap W (ans_sum hf.1 hf.2) (by simp [ansL]) h hp
    rw [ans_reply hf.1 hf.2] at E1
    rw [ans_event] at E2
    rw [ans_valid hf.1 hf.2] at E3
    have hLn : fcells (ansL c n) ≠ [] := by simp [ansL, fcells, fcell]
    generalize ansL c n = L at *
    simp only at A1 E1 E2
    have A1 := Lib.hid A1
    have E1 := Lib.hid E1
    have E2 := Lib.hid E2
    have E3 := Lib.hid E3
    clear hf hc hm
    go_upto_region 5 with (go_at_call 12; refine (A1.out _ (HT.out.keep B1)).mono ?_; rintro e w4 ⟨ac, cc, rfl, atc, b4⟩; clear A1; have B4 := B1.trans (b4.mono B1.size); have X4 := X1.keep b4)
    clear B1 X1 b4 r0 r1
    go_upto_region 7 with (go_at_call 13; refine (E1.out _ _ _ atc).mono ?_; rintro e w5 ⟨rfl, b5⟩; clear E1; have B5 := B4.trans (b5.mono B4.size); have X5 := X4.keep b5; have at5 := atc.keep b5)
    have B5' := B5.alloc B5.size (.cells #[.int .i64 c, .int .i64 n] 37)
    have X5' := X5.alloc (.cells #[.int .i64 c, .int .i64 n] 37)
    have Y5 := Box.new w5 37 #[.int .i64 c, .int .i64 n]
    have at5' := at5.keep ((Below.refl _ _).alloc (Nat.le_refl _) (.cells #[.int .i64 c, .int .i64 n] 37))
    generalize w5.alloc (.cells #[.int .i64 c, .int .i64 n] 37) = W5 at *
    generalize w5.heap.size = g5 at *
    clear B4 X4 atc b5 B5 X5 at5
    go_upto_region 8 with (first
      | (go_at_call 8; refine (E2.out _ _ _ at5').mono ?_; rintro e w6 ⟨rfl, b6⟩; clear E2; have B6 := B5'.trans (b6.mono B5'.size); have X6 := X5'.keep b6; have Y6 := Y5.keep b6; have at6 := at5'.keep b6; have zg6 := X6.lt; have zy6 := Y6.lt)
      | ((with_reducible refine wpList_store_box rfl 23 (.tmp 7) (.tmp 33) rfl (Ev.cells Ev.zero) (Box.new w6 23 #[.int .i64 0, .int .i64 0, .int .i64 0, .int .i64 0, .int .i64 0, .int .i64 0, .int .i64 0, .int .i64 0, .int .i64 0, .int .i64 0, .bool false, .string ⟨#[]⟩]) ?_ ?_ ?_ ?_ ?_ ?_); (· exact size12 _); (· rfl); (· exact ev_one _); (· rfl); (· rfl); skip))
    have B7 := below_setRow (B6.alloc B6.size (.cells #[.int .i64 0, .int .i64 0, .int .i64 0, .int .i64 0, .int .i64 0, .int .i64 0, .int .i64 0, .int .i64 0, .int .i64 0, .int .i64 0, .bool false, .string ⟨#[]⟩] 23)) B6.size (Ev.cells Ev.zero)
    have X7 := Box.farRow (X6.alloc (.cells #[.int .i64 0, .int .i64 0, .int .i64 0, .int .i64 0, .int .i64 0, .int .i64 0, .int .i64 0, .int .i64 0, .int .i64 0, .int .i64 0, .bool false, .string ⟨#[]⟩] 23)) (k := w6.heap.size) (by omega) (Ev.cells Ev.zero)
    have Y7 := Box.farRow (Y6.alloc (.cells #[.int .i64 0, .int .i64 0, .int .i64 0, .int .i64 0, .int .i64 0, .int .i64 0, .int .i64 0, .int .i64 0, .int .i64 0, .int .i64 0, .bool false, .string ⟨#[]⟩] 23)) (k := w6.heap.size) (by omega) (Ev.cells Ev.zero)
    have at7 := at_setRow (at6.keep ((Below.refl _ _).alloc (Nat.le_refl _) (.cells #[.int .i64 0, .int .i64 0, .int .i64 0, .int .i64 0, .int .i64 0, .int .i64 0, .int .i64 0, .int .i64 0, .int .i64 0, .int .i64 0, .bool false, .string ⟨#[]⟩] 23))) (g := w6.heap.size) (fun b off s e => by
      have := at6.lt b off s e hLn
      omega) (Ev.cells Ev.zero)
    generalize (w6.alloc (.cells #[.int .i64 0, .int .i64 0, .int .i64 0, .int .i64 0, .int .i64 0, .int .i64 0, .int .i64 0, .int .i64 0, .int .i64 0, .int .i64 0, .bool false, .string ⟨#[]⟩] 23)).setRow w6.heap.size (Ev.cells Ev.zero) = W7 at *
    generalize w6.heap.size = g7 at *
    have q2 := fun W => eql_rp c n W
    have r0 : W7.cell? ⟨w.heap.size, 0, none⟩ = some (.int .i64 c) := X7.cell 0
    have r1 : W7.cell? ⟨w.heap.size, 1, none⟩ = some (.int .i64 n) := X7.cell 1
    have s0 : W7.cell? ⟨g5, 0, none⟩ = some (.int .i64 c) := Y7.cell 0
    have s1 : W7.cell? ⟨g5, 1, none⟩ = some (.int .i64 n) := Y7.cell 1
    clear B5' X5' Y5 at5' b6 X6 Y6 at6 zg6 zy6
    go_wp2_with (go_at_call 10; refine (E3.out _ _ _ at7 (HT.out.keep B7)).mono ?_; rintro e w8 ⟨rfl, b8⟩)
    go_ret
    exact ⟨ret_bool (by simp), B7.trans (b8.mono B7.size)⟩
  · rw [answerR_bad hf] at A1
    have A1 := Lib.hid A1
    clear hf hc hm
    go_wp2_with (go_at_call 12; refine (A1.out _ (HT.out.keep B1)).mono ?_; rintro e w4 ⟨ac, cc, rfl, atc, b4⟩; clear A1)
    go_ret
    exact ⟨rfl, B1.trans (b4.mono B1.size)⟩
set_option maxRecDepth 100000 in
theorem opened (H : Type) (enc : TypeId × Value → H) (W : World) (base : Nat) (args : Array Value) (ds : List (DataW H)) (p : List MemPlace)
    (hval : ∀ (j : Nat) t v, Tryz.f4.params[j]? = some t → args[j]? = some v → Value.okWide Tryz.prog W .any base t v)
    (hA : DataW.TrodAll enc Tryz.prog W 0 (fun _ => true) true Tryz.f4.params.toList args.toList ds p)
    (hr : ∀ x ∈ DataW.weightsEach Tryz.prog Tryz.f4.params.toList ds, x ≤ reachBytes)
    (hL : laidMetH Tryz.prog Rows.portRepliesRow.laid W) :
    Calls Tryz.prog 4 args W fun e W' => e = .returned (.bool true) ∧ Below W.heap.size W W' := by
  rw [Tryz.params4] at hA hval hr
  have _ := hr
  obtain ⟨v1, vs1, d1, ds1, p1, q1, hargs, rfl, rfl, h1, r1⟩ := trodAll_cons hA
  obtain ⟨rfl, rfl, rfl⟩ := trodAll_nil r1
  obtain rfl : args = #[v1] := by cases args; simp_all
  obtain ⟨c, n, rfl, hc, hm⟩ := open_reply (hval 0 37 v1 rfl rfl) h1
  exact walk c n W hc hm (pow_laid8 hL)
end Go.Proofs.YtbpndiegbfpigaaGreatDoor.portReplies
