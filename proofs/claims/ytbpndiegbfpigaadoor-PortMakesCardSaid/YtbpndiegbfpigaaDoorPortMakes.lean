/- PortMakes: the walk, and the step from the law's arguments to it. -/
import Derived.Test.YtbpndiegbfpigaaDoorPortOpen
namespace Go.Proofs.YtbpndiegbfpigaaDoor.portMakes
open Go.ChangeShapes Go.WideShapes Go.ChangeAt Go.RowKit Go.Proofs.YtbpndiegbfpigaaDoor.Bas Go.Proofs.YtbpndiegbfpigaaDoor.DecM Go.Proofs.YtbpndiegbfpigaaDoor.FixpM Go.Proofs.YtbpndiegbfpigaaDoor.FixpW Go.Proofs.YtbpndiegbfpigaaDoor.DecW Go.Proofs.YtbpndiegbfpigaaDoor.FldW Go.Proofs.YtbpndiegbfpigaaDoor.PortM Go.Proofs.YtbpndiegbfpigaaDoor.PortW

theorem fieldsR_len (v : Ev) : (fieldsR v).1.length ≤ 7 := by
  unfold fieldsR
  have := tagsF_len v.kind
  split
  · simp
  · split <;> simp [outF]; omega
theorem answerR_len (c n : Int) : (answerR c n).1.length ≤ 3 := by
  unfold answerR
  split <;> simp
structure Hold (w W : World) (v : Ev) (aa ab ac ad : Option Addr) (fl al : List Fld) : Prop where
  bx : Box W w.heap.size 23 (Ev.cells v)
  a : At W aa (fcells fl)
  b : At W ab (fcells fl)
  c : At W ac (fcells al)
  d : At W ad (fcells al)
  low : Below w.heap.size w W
theorem Hold.drewN {w W : World} {v : Ev} {aa ab ac ad : Option Addr} {fl al : List Fld} (h : Hold w W v aa ab ac ad fl al) (n : Nat) : Hold w (W.drewN n) v aa ab ac ad fl al := ⟨h.bx, h.a, h.b, h.c, h.d, below_drewN h.low n⟩
theorem Hold.same {w W W' : World} {v : Ev} {aa ab ac ad : Option Addr} {fl al : List Fld} (h : Hold w W v aa ab ac ad fl al) (e : W = W') : Hold w W' v aa ab ac ad fl al := e ▸ h
theorem Hold.drew {w W : World} {v : Ev} {aa ab ac ad : Option Addr} {fl al : List Fld} (h : Hold w W v aa ab ac ad fl al) : Hold w W.drew v aa ab ac ad fl al := ⟨h.bx, h.a, h.b, h.c, h.d, h.low.drew⟩
set_option maxHeartbeats 4000000 in
set_option maxRecDepth 20000 in
theorem walk (v : Ev) (c n : Int) (w : World) (hk : I64 v.kind) (hn : ∀ t, I64 (num v t)) (hc : I64 c) (hm : I64 n) (ht : Pow w) :
    Calls Tryd.prog 3 #[.agg (Ev.cells v), .agg #[.int .i64 c, .int .i64 n]] w fun e w' => e = .returned (.bool true) ∧ Below w.heap.size w w' := by
  have HT := Lib.hid ht
  have C0 := Lib.hid (fun W => wakes_calls W)
  clear ht
  go_enter Tryd.func3, Tryd.ntmps3
  have XE := (Box.new w 23 (Ev.cells v)).alloc (.cells #[.int .i64 c, .int .i64 n] 26)
  have XR := Box.new (w.alloc (.cells (Ev.cells v) 23)) 26 #[.int .i64 c, .int .i64 n]
  have B0 := ((Below.refl w.heap.size w).alloc (Nat.le_refl _) (.cells (Ev.cells v) 23)).alloc (by simp) (.cells #[.int .i64 c, .int .i64 n] 26)
  rw [show (w.alloc (.cells (Ev.cells v) 23)).heap.size = w.heap.size + 1 by simp] at XR
  go_upto_region 3 with (go_at_call 6; refine (C0.out _ (HT.out.keep B0)).mono ?_; rintro e w1 ⟨rfl, b1⟩; have B1 := B0.trans (b1.mono B0.size); have XE := XE.keep b1; have XR := XR.keep b1)
  clear C0 B0 b1
  obtain ⟨e0, e1, e2, e3, e4, e5, e6, e7, e8, e9, e10, e11⟩ := XE.cells12
  have r0 := XR.cell 0
  have r1 := XR.cell 1
  by_cases hlen : v.name.length ≤ 4096
  · have hf : Ev.Fine v := ⟨hn, hk, by omega⟩
    have F1 := Lib.hid (fun W h => fields_calls v W hf h)
    have F2 := Lib.hid (fun W => rfields_calls v W hf)
    have A1 := Lib.hid (fun W h => answer_calls c n W hc hm h)
    have A2 := Lib.hid (fun W => ranswer_calls c n W hc hm)
    have hl : ¬ (4096 < (v.name.length : Int)) := by omega
    clear hf hn hk hc hm hlen
    have L1 := fieldsR_len v
    have L2 := answerR_len c n
    generalize hFR : fieldsR v = fr at *
    obtain ⟨fl, fe⟩ := fr
    generalize hAR : answerR c n = ar at *
    obtain ⟨al, ae⟩ := ar
    clear hFR hAR
    go_upto_region 9 with (first
      | (go_at_call 7; refine (F1.out _ (HT.out.keep B1)).mono ?_; rintro e w2 ⟨aa, ca, rfl, owna, b2⟩; clear F1; have ata := at_of_owns owna; have B2 := B1.trans (b2.mono B1.size); have XE2 := XE.keep b2; have XR2 := XR.keep b2; obtain ⟨f0, f1, f2, f3, f4, f5, f6, f7, f8, f9, f10, f11⟩ := XE2.cells12)
      | (go_at_call 8; refine (F2.out _).mono ?_; rintro e w3 ⟨ab, cb, rfl, ownb, b3⟩; clear F2; have atb := at_of_owns ownb; have B3 := B2.trans (b3.mono B2.size); have XE3 := XE2.keep b3; have XR3 := XR2.keep b3; have s0 := XR3.cell 0; have s1 := XR3.cell 1)
      | (go_at_call 9; refine (A1.out _ (HT.out.keep B3)).mono ?_; rintro e w4 ⟨ac, cc, rfl, atc, b4⟩; clear A1; have B4 := B3.trans (b4.mono B3.size); have XE4 := XE3.keep b4; have XR4 := XR3.keep b4; have t0 := XR4.cell 0; have t1 := XR4.cell 1)
      | (go_at_call 10; refine (A2.out _).mono ?_; rintro e w5 ⟨ad, cd, rfl, atd, b5⟩; clear A2; have B5 := B4.trans (b5.mono B4.size); have XE5 := XE4.keep b5; have k0 := XE5.cell 0))
    have ata3 : At w5 aa (fcells fl) := by
      obtain ⟨x, y, e, _, _, h, _⟩ := ata
      cases e
      exact ((h.keep b3).keep b4).keep b5
    have atb3 : At w5 ab (fcells fl) := by
      obtain ⟨x, y, e, _, _, h, _⟩ := atb
      cases e
      exact (h.keep b4).keep b5
    have H0 : Hold w w5 v aa ab ac ad fl al := ⟨XE5, ata3, atb3, atc.keep b5, atd, B5⟩
    have H0d := H0.drew
    have Q := Lib.hid (fun a b ca cb xs ys W h1 h2 h3 h4 => same_calls a b ca cb xs ys W h1 h2 h3 h4)
    clear ata atb atc atd ata3 atb3 B5 B4 B3 B2 B1 XE5 XE4 XE3 XE2 XE XR4 XR3 XR2 XR b2 b3 b4 b5 owna ownb e0 e1 e2 e3 e4 e5 e6 e7 e8 e9 e10 e11 f0 f1 f2 f3 f4 f5 f6 f7 f8 f9 f10 f11 r0 r1 s0 s1 t0 t1
    go_region_held3 (fun W => W.cell? ⟨w.heap.size, 0, none⟩ = some (.int .i64 v.kind) ∧ Hold w W v aa ab ac ad fl al)
      (first | exact ⟨X9.bx.cell 0, X9⟩ | exact ⟨H0d.bx.cell 0, H0d⟩ | exact ⟨H0.bx.cell 0, H0⟩ | (refine ⟨?_, Hold.drewN (by assumption) _⟩; go_keep) | go_keep)
      (first
        | (go_at_call 11; refine (of_calls _ _).mono ?_; rintro e w6 ⟨rfl, hww⟩; go_split_ands; have X9 := Hold.same (by assumption) hww)
        | (go_at_call 12; refine (rof_calls _ _).mono ?_; rintro e w6 ⟨rfl, hww⟩; go_split_ands; have X9 := Hold.same (by assumption) hww)
        | (go_at_call 13; refine (Q.out _ _ _ _ _ _ _ (by omega) (by omega) (by first | exact Hold.a (by go_split_ands; assumption) | exact Hold.c (by go_split_ands; assumption)) (by first | exact Hold.b (by go_split_ands; assumption) | exact Hold.d (by go_split_ands; assumption))).mono ?_; rintro e w6 ⟨rfl, m6, rfl⟩; go_split_ands; have X9 := Hold.drewN (by assumption) m6))
    go_split_ands
    go_wp2_with fail
    go_ret
    exact ⟨ret_bool (by simp), Hold.low (by assumption)⟩
  · have hl : 4096 < (v.name.length : Int) := by omega
    clear hlen
    go_wp2_with fail
    go_ret
    exact ⟨rfl, B1⟩
set_option maxRecDepth 100000 in
theorem opened (H : Type) (enc : TypeId × Value → H) (W : World) (base : Nat) (args : Array Value) (ds : List (DataW H)) (p : List MemPlace)
    (hval : ∀ (j : Nat) t v, Tryd.f3.params[j]? = some t → args[j]? = some v → Value.okWide Tryd.prog W .any base t v)
    (hA : DataW.TrodAll enc Tryd.prog W 0 (fun _ => true) true Tryd.f3.params.toList args.toList ds p)
    (hr : ∀ x ∈ DataW.weightsEach Tryd.prog Tryd.f3.params.toList ds, x ≤ reachBytes)
    (hL : laidMetH Tryd.prog Rows.portMakesRow.laid W) :
    Calls Tryd.prog 3 args W fun e W' => e = .returned (.bool true) ∧ Below W.heap.size W W' := by
  rw [Tryd.params3] at hA hval hr
  have _ := hr
  obtain ⟨v0, vs0, d0, ds0, p0, q0, hargs, rfl, rfl, h0, r0⟩ := trodAll_cons hA
  obtain ⟨v1, vs1, d1, ds1, p1, q1, rfl, rfl, rfl, h1, r1⟩ := trodAll_cons r0
  obtain ⟨rfl, rfl, rfl⟩ := trodAll_nil r1
  obtain rfl : args = #[v0, v1] := by cases args; simp_all
  obtain ⟨x, rfl, hk, hn⟩ := open_event (hval 0 23 v0 rfl rfl) h0
  obtain ⟨c, n, rfl, hc, hm⟩ := open_reply (hval 1 26 v1 rfl rfl) h1
  exact walk x c n W hk hn hc hm (pow_laid3 hL)
end Go.Proofs.YtbpndiegbfpigaaDoor.portMakes
