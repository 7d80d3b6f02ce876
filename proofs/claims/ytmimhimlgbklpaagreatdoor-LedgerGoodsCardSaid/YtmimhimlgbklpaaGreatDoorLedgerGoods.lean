/- LedgerGoods: the walk, and the step from the law's arguments to it. Written by gengoods.py. -/
import Derived.Test.YtmimhimlgbklpaaGreatDoorLedFit
import Derived.Test.YtmimhimlgbklpaaGreatDoorLedRGood
set_option linter.unusedSimpArgs false
set_option linter.unusedVariables false
namespace Go.Proofs.YtmimhimlgbklpaaGreatDoor.ledgerGoods
open Go.ChangeShapes Go.WideShapes Go.ChangeAt Go.RowKit Go.Proofs.YtmimhimlgbklpaaGreatDoor.Bas Go.Proofs.YtmimhimlgbklpaaGreatDoor.LedM Go.Proofs.YtmimhimlgbklpaaGreatDoor.LedW

set_option maxHeartbeats 4000000 in
set_option maxRecDepth 100000 in
theorem walk (s : Lists) (l : Led) (vs : List (Value × Acc)) (w : World) (hat : LedAt w s l vs) (hok : LedOk w l vs s) (hb : LedBig l) :
    Calls Tryz.prog 3 #[ledV s l] w fun e w' => e = .returned (.bool true) ∧ Below w.heap.size w w' := by
  have X := ledH_new w s l vs hat
  have D0 := Lib.hid (fun W => lwakes_calls W)
  have F := Lib.hid (fun W => first_calls W)
  have G0 := Lib.hid (fun W s us h => lgood_calls s firstL us W h fit_first)
  rw [good_first] at G0
  have DW := Lib.hid (fun W (h : LedH w W w.heap.size s l vs) => wide_calls s l vs W h.at_ hb (cash_big hok hat))
  have HF := Lib.hid (fun h => fit_of hok hat h)
  clear hat hok hb
  unfold ledV at DW F G0 ⊢
  go_enter Tryz.func3, Tryz.ntmps3
  go_upto_region 1 with fail
  generalize w.alloc (.cells #[.int .i64 l.day, .slice s.a1 l.curs.length s.c1, .slice s.a2 l.unders.length s.c2, .slice s.a3 l.instrs.length s.c3, .slice s.a4 l.accts.length s.c4, .slice s.a5 l.poss.length s.c5, .slice s.a6 l.orders.length s.c6, .slice s.a7 l.avail.length s.c7, .slice s.a8 l.locs.length s.c8] 31) = w0 at *
  have XH := Lib.hid X
  clear X
  go_upto_region 3 with (first | (go_at_call 4; refine (D0.out _).mono ?_; rintro e w1 ⟨rfl, b1⟩; have X1 := Lib.hid (XH.out.keep b1)) | (go_at_call 6; refine (F.out _).mono ?_; rintro e w2 ⟨s1, us1, rfl, own1, b2⟩; have X2 := Lib.hid (X1.out.keep b2)) | (go_at_call 5; refine (G0.out _ _ _ own1.at_).mono ?_; rintro e w3 ⟨rfl, b3⟩; have X3 := Lib.hid (X2.out.keep b3)))
  clear XH X1 X2 b1 b2 b3 own1 D0 F G0
  cases hw : wideF l with
  | true =>
    rw [hw] at DW
    clear hw HF
    have X00 := X3.out.drew
    refine kept_region (fun W => W.cell? ⟨w.heap.size, 0, none⟩ = some (.int .i64 l.day) ∧ W.cell? ⟨w.heap.size, 1, none⟩ = some (.slice s.a1 l.curs.length s.c1) ∧ W.cell? ⟨w.heap.size, 2, none⟩ = some (.slice s.a2 l.unders.length s.c2) ∧ W.cell? ⟨w.heap.size, 3, none⟩ = some (.slice s.a3 l.instrs.length s.c3) ∧ W.cell? ⟨w.heap.size, 4, none⟩ = some (.slice s.a4 l.accts.length s.c4) ∧ W.cell? ⟨w.heap.size, 5, none⟩ = some (.slice s.a5 l.poss.length s.c5) ∧ W.cell? ⟨w.heap.size, 6, none⟩ = some (.slice s.a6 l.orders.length s.c6) ∧ W.cell? ⟨w.heap.size, 7, none⟩ = some (.slice s.a7 l.avail.length s.c7) ∧ W.cell? ⟨w.heap.size, 8, none⟩ = some (.slice s.a8 l.locs.length s.c8) ∧ LedH w W w.heap.size s l vs) (by kernel_rfl) (by kernel_rfl) ⟨X00.c0, X00.c1, X00.c2, X00.c3, X00.c4, X00.c5, X00.c6, X00.c7, X00.c8, X00⟩ ?_
    clear X00
    repeat first
      | (refine' kept_go _ _ (fun W hW => _) _; rotate_left; (focus (go_simp; done)); (refine ⟨?_⟩; obtain ⟨k1, k2, k3, k4, k5, k6, k7, k8, k9, X9⟩ := hW; go_simp; first | done | (with_reducible rfl) | (go_at_call 7; refine (DW.out _ X9).mono ?_; rintro e w2 ⟨rfl, bb⟩; have Y := X9.keep bb; refine And.intro ?_ ⟨Y.c0, Y.c1, Y.c2, Y.c3, Y.c4, Y.c5, Y.c6, Y.c7, Y.c8, Y⟩; with_reducible rfl)); simp only [Act.put, List.setIfInBounds_toArray, List.set_cons_zero, List.set_cons_succ])
      | (refine kept_skip ?_ ?_; (focus (first | (go_simp; done) | kernel_rfl)); simp only [Act.put, List.setIfInBounds_toArray, List.set_cons_zero, List.set_cons_succ])
    refine kept_end ?_
    rintro wk ⟨k1, k2, k3, k4, k5, k6, k7, k8, k9, X9⟩
    go_wp2_with fail
    go_ret
    exact ⟨rfl, X9.low⟩
  | false =>
  rw [hw] at DW
  have hf := HF.out hw
  have HG := Lib.hid (fun W (h : LedH w W w.heap.size s l vs) => lgood_calls s l vs W h.at_ hf)
  have HR := Lib.hid (fun W (h : LedH w W w.heap.size s l vs) => rgood_calls s l vs W h.at_ hf)
  unfold ledV at HG HR
  generalize goodF l = b at HG HR
  clear hw HF hf
  have X00 := X3.out.drew
  refine kept_region (fun W => W.cell? ⟨w.heap.size, 0, none⟩ = some (.int .i64 l.day) ∧ W.cell? ⟨w.heap.size, 1, none⟩ = some (.slice s.a1 l.curs.length s.c1) ∧ W.cell? ⟨w.heap.size, 2, none⟩ = some (.slice s.a2 l.unders.length s.c2) ∧ W.cell? ⟨w.heap.size, 3, none⟩ = some (.slice s.a3 l.instrs.length s.c3) ∧ W.cell? ⟨w.heap.size, 4, none⟩ = some (.slice s.a4 l.accts.length s.c4) ∧ W.cell? ⟨w.heap.size, 5, none⟩ = some (.slice s.a5 l.poss.length s.c5) ∧ W.cell? ⟨w.heap.size, 6, none⟩ = some (.slice s.a6 l.orders.length s.c6) ∧ W.cell? ⟨w.heap.size, 7, none⟩ = some (.slice s.a7 l.avail.length s.c7) ∧ W.cell? ⟨w.heap.size, 8, none⟩ = some (.slice s.a8 l.locs.length s.c8) ∧ LedH w W w.heap.size s l vs) (by kernel_rfl) (by kernel_rfl) ⟨X00.c0, X00.c1, X00.c2, X00.c3, X00.c4, X00.c5, X00.c6, X00.c7, X00.c8, X00⟩ ?_
  clear X00
  repeat first
    | (refine' kept_go _ _ (fun W hW => _) _; rotate_left; (focus (go_simp; done)); (refine ⟨?_⟩; obtain ⟨k1, k2, k3, k4, k5, k6, k7, k8, k9, X9⟩ := hW; go_simp; first | done | (with_reducible rfl) | (go_at_call 7; refine (DW.out _ X9).mono ?_; rintro e w2 ⟨rfl, bb⟩; have Y := X9.keep bb; refine And.intro ?_ ⟨Y.c0, Y.c1, Y.c2, Y.c3, Y.c4, Y.c5, Y.c6, Y.c7, Y.c8, Y⟩; with_reducible rfl) | (go_at_call 5; refine (HG.out _ X9).mono ?_; rintro e w2 ⟨rfl, bb⟩; have Y := X9.keep bb; refine And.intro ?_ ⟨Y.c0, Y.c1, Y.c2, Y.c3, Y.c4, Y.c5, Y.c6, Y.c7, Y.c8, Y⟩; with_reducible rfl) | (go_at_call 8; refine (HR.out _ X9).mono ?_; rintro e w2 ⟨rfl, bb⟩; have Y := X9.keep bb; refine And.intro ?_ ⟨Y.c0, Y.c1, Y.c2, Y.c3, Y.c4, Y.c5, Y.c6, Y.c7, Y.c8, Y⟩; with_reducible rfl)); simp only [Act.put, List.setIfInBounds_toArray, List.set_cons_zero, List.set_cons_succ])
    | (refine kept_skip ?_ ?_; (focus (first | (go_simp; done) | kernel_rfl)); simp only [Act.put, List.setIfInBounds_toArray, List.set_cons_zero, List.set_cons_succ])
  refine kept_end ?_
  rintro wk ⟨k1, k2, k3, k4, k5, k6, k7, k8, k9, X9⟩
  go_wp2_with fail
  go_ret
  exact ⟨rfl, X9.low⟩

set_option maxRecDepth 100000 in
theorem opened (H : Type) (enc : TypeId × Value → H) (W : World) (base : Nat) (args : Array Value) (ds : List (DataW H)) (p : List MemPlace)
    (hval : ∀ (j : Nat) t v, Tryz.f3.params[j]? = some t → args[j]? = some v → Value.okWide Tryz.prog W .any base t v)
    (hA : DataW.TrodAll enc Tryz.prog W 0 (fun _ => true) true Tryz.f3.params.toList args.toList ds p)
    (hr : ∀ x ∈ DataW.weightsEach Tryz.prog Tryz.f3.params.toList ds, x ≤ reachBytes)
    (hL : laidMetH Tryz.prog Rows.ledgerGoodsRow.laid W) :
    Calls Tryz.prog 3 args W fun e W' => e = .returned (.bool true) ∧ Below W.heap.size W W' := by
  rw [Tryz.params3] at hA hval hr
  have _ := hL
  obtain ⟨v0, vs0, d0, ds0, p0, q0, hargs, rfl, rfl, h0, r0⟩ := trodAll_cons hA
  obtain ⟨rfl, rfl, rfl⟩ := trodAll_nil r0
  obtain rfl : args = #[v0] := by cases args; simp_all
  obtain ⟨s, l, vs, rfl, hat, hok, hb⟩ := open_ledger2 (hval 0 31 v0 rfl rfl) h0 (fun x hx => hr x (by simp only [DataW.weightsEach, List.mem_append]; exact .inl hx))
  exact walk s l vs W hat hok hb
end Go.Proofs.YtmimhimlgbklpaaGreatDoor.ledgerGoods
