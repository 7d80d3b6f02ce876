/- PortReads: the walk, and the step from the law's arguments to it. -/
import Derived.Test.YtbpndiegbfpigaaDoorPortREvent
import Derived.Test.YtbpndiegbfpigaaDoorPortReply
import Derived.Test.YtbpndiegbfpigaaDoorPortLong
import Derived.Test.YtbpndiegbfpigaaDoorPortArg
namespace Go.Proofs.YtbpndiegbfpigaaDoor.portReads
open Go.ChangeShapes Go.WideShapes Go.ChangeAt Go.RowKit Go.Proofs.YtbpndiegbfpigaaDoor.Bas Go.Proofs.YtbpndiegbfpigaaDoor.DecM Go.Proofs.YtbpndiegbfpigaaDoor.FixpM Go.Proofs.YtbpndiegbfpigaaDoor.FixpW Go.Proofs.YtbpndiegbfpigaaDoor.DecW Go.Proofs.YtbpndiegbfpigaaDoor.FldW Go.Proofs.YtbpndiegbfpigaaDoor.PortM Go.Proofs.YtbpndiegbfpigaaDoor.PortW

theorem eql_ev (v : Ev) (W : World) : (binOp .eql 23 (.agg (Ev.cells v)) (.agg (Ev.cells v))).run Tryd.prog W = .ok (.bool true) W := by
  simp [go_sem, Ev.cells]
theorem eql_rp (x y : Int) (W : World) : (binOp .eql 26 (.agg #[.int .i64 x, .int .i64 y]) (.agg #[.int .i64 x, .int .i64 y])).run Tryd.prog W = .ok (.bool true) W := by
  simp [go_sem]
/-- the argument stays -/
structure HoldF (w W : World) (a : Option Addr) (fs : List Fld) : Prop where
  at_ : At W a (fcells fs)
  low : Below w.heap.size w W
  ab : ∀ b off s, a = some ⟨b, off, s⟩ → fcells fs ≠ [] → b < w.heap.size
theorem HoldF.keep {w W W' : World} {a : Option Addr} {fs : List Fld} (h : HoldF w W a fs) (hb : Below W.heap.size W W') : HoldF w W' a fs := ⟨h.at_.keep hb, h.low.trans (hb.mono h.low.size), h.ab⟩
theorem HoldF.alloc {w W : World} {a : Option Addr} {fs : List Fld} (h : HoldF w W a fs) (o : Obj) : HoldF w (W.alloc o) a fs := h.keep ((Below.refl _ _).alloc (Nat.le_refl _) _)
theorem HoldF.row {w W : World} {a : Option Addr} {fs : List Fld} (h : HoldF w W a fs) {g : Nat} (hg : w.heap.size ≤ g) (C : Array Value) : HoldF w (W.setRow g C) a fs := by
  refine ⟨?_, below_setRow h.low hg C, h.ab⟩
  by_cases hn : fcells fs = []
  · rw [hn]; exact At.nil _ _
  · exact h.at_.setRow (fun b off s e => by have := h.ab b off s e hn; omega) C
set_option maxHeartbeats 2000000 in
set_option maxRecDepth 20000 in
theorem walk (fs : List Fld) (a : Option Addr) (cap : Nat) (w : World) (hl : fs.length ≤ 140737488351232) (hok : ∀ f ∈ fs, f.2.length ≤ 140737488351232) (hat : At w a (fcells fs)) (ht : Pow w) :
    Calls Tryd.prog 4 #[.slice a fs.length cap] w fun e w' => e = .returned (.bool true) ∧ Below w.heap.size w w' := by
  have C0 := Lib.hid (wakes_calls w ht)
  have C1 := Lib.hid (fun W h => long_calls fs a cap W hl hok h)
  have c2 := fun W h => event_calls fs a cap W hl hok h
  have c3 := fun W h => revent_calls fs a cap W hl hok h
  have c4 := fun W h => reply_calls fs a cap W hok hl h
  have c5 := fun W h => rreply_calls fs a cap W hok hl h
  generalize eventR fs = ev at c2 c3
  obtain ⟨v, e1⟩ := ev
  generalize replyR fs = rp at c4 c5
  obtain ⟨⟨rc, rn⟩, e2⟩ := rp
  simp only at c2 c3 c4 c5
  have C2 := Lib.hid c2
  have C3 := Lib.hid c3
  have C4 := Lib.hid c4
  have C5 := Lib.hid c5
  have H0 : HoldF w w a fs := ⟨hat, Below.refl _ _, hat.lt⟩
  clear c2 c3 c4 c5 ht hat hok
  go_enter Tryd.func4, Tryd.ntmps4
  by_cases hbig : 16384 < tot fs
  · rw [decide_eq_true hbig] at C1
    clear hbig C2 C3 C4 C5
    go_wp2_with (first
      | (go_at_call 6; refine C0.out.mono ?_; rintro e w1 ⟨rfl, b1⟩; have H1 := H0.keep b1)
      | (go_at_call 14; refine (C1.out _ H1.at_).mono ?_; rintro e w2 ⟨rfl, b2⟩; have H2 := H1.keep b2))
    go_ret
    exact ⟨rfl, H2.low⟩
  · rw [decide_eq_false hbig] at C1
    clear hbig
    go_upto_region 5 with (first
      | (go_at_call 6; refine C0.out.mono ?_; rintro e w1 ⟨rfl, b1⟩; have H1 := H0.keep b1)
      | (go_at_call 14; refine (C1.out _ H1.at_).mono ?_; rintro e w2 ⟨rfl, b2⟩; have H2 := H1.keep b2))
    clear C0 C1 H0 H1 b1 b2
    go_upto_region 6 with (first
      | (go_at_call 15; refine (C2.out _ H2.at_).mono ?_; rintro e w3 ⟨rfl, b3⟩; have H3 := H2.keep b3; clear C2)
      | ((with_reducible refine wpList_store_box rfl 23 (.tmp 3) (.tmp 18) rfl (Ev.cells v) (Box.new w3 23 #[.int .i64 0, .int .i64 0, .int .i64 0, .int .i64 0, .int .i64 0, .int .i64 0, .int .i64 0, .int .i64 0, .int .i64 0, .int .i64 0, .bool false, .string ⟨#[]⟩]) ?_ ?_ ?_ ?_ ?_ ?_); (· exact size12 _); (· rfl); (· exact ev_one _); (· rfl); (· rfl); skip))
    have H3' := (H3.alloc (.cells #[.int .i64 0, .int .i64 0, .int .i64 0, .int .i64 0, .int .i64 0, .int .i64 0, .int .i64 0, .int .i64 0, .int .i64 0, .int .i64 0, .bool false, .string ⟨#[]⟩] 23)).row (g := w3.heap.size) (H3.low.size) (Ev.cells v)
    have X3 := Box.row (Box.new w3 23 #[.int .i64 0, .int .i64 0, .int .i64 0, .int .i64 0, .int .i64 0, .int .i64 0, .int .i64 0, .int .i64 0, .int .i64 0, .int .i64 0, .bool false, .string ⟨#[]⟩]) (Ev.cells v)
    generalize (w3.alloc (.cells #[.int .i64 0, .int .i64 0, .int .i64 0, .int .i64 0, .int .i64 0, .int .i64 0, .int .i64 0, .int .i64 0, .int .i64 0, .int .i64 0, .bool false, .string ⟨#[]⟩] 23)).setRow w3.heap.size (Ev.cells v) = W3 at *
    generalize w3.heap.size = g3 at *
    clear H2 H3 b3
    go_upto_region 7 with (first
      | (go_at_call 16; refine (C3.out _ H3'.at_).mono ?_; rintro e w4 ⟨rfl, b4⟩; have H4 := H3'.keep b4; have X3a := X3.keep b4; have z3 := X3a.lt; clear C3)
      | ((with_reducible refine wpList_store_box rfl 23 (.tmp 5) (.tmp 23) rfl (Ev.cells v) (Box.new w4 23 #[.int .i64 0, .int .i64 0, .int .i64 0, .int .i64 0, .int .i64 0, .int .i64 0, .int .i64 0, .int .i64 0, .int .i64 0, .int .i64 0, .bool false, .string ⟨#[]⟩]) ?_ ?_ ?_ ?_ ?_ ?_); (· exact size12 _); (· rfl); (· exact ev_one _); (· rfl); (· rfl); skip))
    have H4' := (H4.alloc (.cells #[.int .i64 0, .int .i64 0, .int .i64 0, .int .i64 0, .int .i64 0, .int .i64 0, .int .i64 0, .int .i64 0, .int .i64 0, .int .i64 0, .bool false, .string ⟨#[]⟩] 23)).row (g := w4.heap.size) (H4.low.size) (Ev.cells v)
    have X4 := Box.row (Box.new w4 23 #[.int .i64 0, .int .i64 0, .int .i64 0, .int .i64 0, .int .i64 0, .int .i64 0, .int .i64 0, .int .i64 0, .int .i64 0, .int .i64 0, .bool false, .string ⟨#[]⟩]) (Ev.cells v)
    have X3b := Box.farRow (X3a.alloc (.cells #[.int .i64 0, .int .i64 0, .int .i64 0, .int .i64 0, .int .i64 0, .int .i64 0, .int .i64 0, .int .i64 0, .int .i64 0, .int .i64 0, .bool false, .string ⟨#[]⟩] 23)) (k := w4.heap.size) (by omega) (Ev.cells v)
    generalize (w4.alloc (.cells #[.int .i64 0, .int .i64 0, .int .i64 0, .int .i64 0, .int .i64 0, .int .i64 0, .int .i64 0, .int .i64 0, .int .i64 0, .int .i64 0, .bool false, .string ⟨#[]⟩] 23)).setRow w4.heap.size (Ev.cells v) = W4 at *
    generalize w4.heap.size = g4 at *
    clear X3 X3a H3' H4 b4 z3
    go_upto_region 8 with (go_at_call 17; refine (C4.out _ H4'.at_).mono ?_; rintro e w5 ⟨rfl, b5⟩; have H5 := H4'.keep b5; have X3c := X3b.keep b5; have X4c := X4.keep b5; clear C4)
    have H5' := H5.alloc (.cells #[.int .i64 rc, .int .i64 rn] 26)
    have X5 := Box.new w5 26 #[.int .i64 rc, .int .i64 rn]
    have X3d := X3c.alloc (.cells #[.int .i64 rc, .int .i64 rn] 26)
    have X4d := X4c.alloc (.cells #[.int .i64 rc, .int .i64 rn] 26)
    generalize w5.alloc (.cells #[.int .i64 rc, .int .i64 rn] 26) = W5 at *
    generalize w5.heap.size = g5 at *
    clear X3b X3c X4 X4c H4' H5 b5
    go_upto_region 9 with (go_at_call 18; refine (C5.out _ H5'.at_).mono ?_; rintro e w6 ⟨rfl, b6⟩; have H6 := H5'.keep b6; have X3e := X3d.keep b6; have X4e := X4d.keep b6; have X5e := X5.keep b6; clear C5)
    have H6' := H6.alloc (.cells #[.int .i64 rc, .int .i64 rn] 26)
    have X6 := Box.new w6 26 #[.int .i64 rc, .int .i64 rn]
    have X3f := X3e.alloc (.cells #[.int .i64 rc, .int .i64 rn] 26)
    have X4f := X4e.alloc (.cells #[.int .i64 rc, .int .i64 rn] 26)
    have X5f := X5e.alloc (.cells #[.int .i64 rc, .int .i64 rn] 26)
    generalize w6.alloc (.cells #[.int .i64 rc, .int .i64 rn] 26) = W6 at *
    generalize w6.heap.size = g6 at *
    have q1 := fun W => eql_ev v W
    have q2 := fun W => eql_rp rc rn W
    have r0 : W6.cell? ⟨g5, 0, none⟩ = some (.int .i64 rc) := X5f.cell 0
    have r1 : W6.cell? ⟨g5, 1, none⟩ = some (.int .i64 rn) := X5f.cell 1
    have s0 : W6.cell? ⟨g6, 0, none⟩ = some (.int .i64 rc) := X6.cell 0
    have s1 : W6.cell? ⟨g6, 1, none⟩ = some (.int .i64 rn) := X6.cell 1
    clear X3d X3e X4d X4e X5 X5e H5' H6 b6
    go_wp2_with (first | ((with_reducible refine wpList_load_box rfl 23 (.tmp 3) rfl X3f Tryd.underlying23 ?_ ?_ ?_ ?_); (· rfl); (· exact size12 _); (· rfl)) | ((with_reducible refine wpList_load_box rfl 23 (.tmp 5) rfl X4f Tryd.underlying23 ?_ ?_ ?_ ?_); (· rfl); (· exact size12 _); (· rfl)))
    go_ret
    exact ⟨ret_bool (by simp), H6'.low⟩
set_option maxRecDepth 100000 in
theorem opened (H : Type) (enc : TypeId × Value → H) (W : World) (base : Nat) (args : Array Value) (ds : List (DataW H)) (p : List MemPlace)
    (hval : ∀ (j : Nat) t v, Tryd.f4.params[j]? = some t → args[j]? = some v → Value.okWide Tryd.prog W .any base t v)
    (hA : DataW.TrodAll enc Tryd.prog W 0 (fun _ => true) true Tryd.f4.params.toList args.toList ds p)
    (hr : ∀ x ∈ DataW.weightsEach Tryd.prog Tryd.f4.params.toList ds, x ≤ reachBytes)
    (hL : laidMetH Tryd.prog Rows.portReadsRow.laid W) :
    Calls Tryd.prog 4 args W fun e W' => e = .returned (.bool true) ∧ Below W.heap.size W W' := by
  rw [Tryd.params4] at hA hval hr
  obtain ⟨v0, vs0, d0, ds0, p0, q0, hargs, rfl, rfl, h0, r0⟩ := trodAll_cons hA
  obtain ⟨rfl, rfl, rfl⟩ := trodAll_nil r0
  obtain rfl : args = #[v0] := by cases args; simp_all
  obtain ⟨a, fs, cap, rfl, hat, hc, hm, hok⟩ := open_fieldsArg (hval 0 28 v0 rfl rfl) h0 (fun x hx => hr x (by simp [DataW.weightsEach, hx]))
  exact walk fs a cap W (by omega) (fun f hf => (hok f hf).2) hat (pow_laid7 hL)
end Go.Proofs.YtbpndiegbfpigaaDoor.portReads
