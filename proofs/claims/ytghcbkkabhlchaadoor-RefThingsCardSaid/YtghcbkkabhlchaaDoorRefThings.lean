/- RefThings: the walk, and the step from the law's arguments to it. -/
import Derived.Test.YtghcbkkabhlchaaDoorRefThing
import Derived.Test.YtghcbkkabhlchaaDoorRefLawBase
import Derived.Deep.RegionWith
import Derived.Deep.RegionHeld3
namespace Go.Proofs.YtghcbkkabhlchaaDoor.refThings
open Go.ChangeShapes Go.WideShapes Go.ChangeAt Go.RowKit Go.Proofs.YtghcbkkabhlchaaDoor.Bas Go.Proofs.YtghcbkkabhlchaaDoor.FixpM Go.Proofs.YtghcbkkabhlchaaDoor.FixpW Go.Proofs.YtghcbkkabhlchaaDoor.RefW

theorem cellsOf_instr : Tryd.prog.cellsOf 36 = 7 := by kernel_rfl
theorem cellsOf_under : Tryd.prog.cellsOf 34 = 4 := by kernel_rfl
theorem open_instr {H : Type} {enc : TypeId × Value → H} {W : World} {base : Nat} {v : Value} {d : DataW H} {p : List MemPlace}
    (hv : Value.okWide Tryd.prog W .any base 36 v) (h : DataW.Trod enc Tryd.prog W 0 (fun _ => true) true 36 v d p) :
    ∃ k u m s x c r, v = instrV k u m s x c r := by
  obtain ⟨L, rfl, hL, hi, hb⟩ := open_agg Tryd.underlying36 hv h
  rw [cellsOf_instr] at hL
  match L, hL with
  | [a0, a1, a2, a3, a4, a5, a6], _ =>
    obtain ⟨z0, h0, w0⟩ := hi 0 _ .i64 rfl cells64 Tryd.underlying3
    obtain ⟨z1, h1, w1⟩ := hi 1 _ .i64 rfl cells64 Tryd.underlying3
    obtain ⟨z2, h2, w2⟩ := hi 2 _ .i64 rfl cells64 Tryd.underlying3
    obtain ⟨z3, h3, w3⟩ := hi 3 _ .i64 rfl cells64 Tryd.underlying3
    obtain ⟨z4, h4, w4⟩ := hi 4 _ .i64 rfl cells64 Tryd.underlying3
    obtain ⟨z5, h5⟩ := hb 5 _ rfl cellsB Tryd.underlying4
    obtain ⟨z6, h6, w6⟩ := hi 6 _ .i64 rfl cells64 Tryd.underlying3
    simp at h0 h1 h2 h3 h4 h5 h6
    subst h0 h1 h2 h3 h4 h5 h6
    exact ⟨z0, z1, z2, z3, z4, z5, z6, rfl⟩
theorem open_under {H : Type} {enc : TypeId × Value → H} {W : World} {base : Nat} {v : Value} {d : DataW H} {p : List MemPlace}
    (hv : Value.okWide Tryd.prog W .any base 34 v) (h : DataW.Trod enc Tryd.prog W 0 (fun _ => true) true 34 v d p) :
    ∃ n c pr vo, v = underV n c pr vo ∧ n.size ≤ 9223372036854775807 := by
  obtain ⟨L, rfl, hL, hi, _⟩ := open_agg Tryd.underlying34 hv h
  obtain ⟨L', ds, e, _, _, _, hf⟩ := open_fields Tryd.underlying34 hv h
  obtain rfl : L = L' := by simpa using e
  rw [cellsOf_under] at hL
  match L, hL with
  | [a0, a1, a2, a3], _ =>
    obtain ⟨s, y, m, hs, _, ht⟩ := hf 0 _ rfl cellsS
    obtain ⟨n, hn, _, hz⟩ := DataW.trod_string Tryd.underlying9 ht
    obtain ⟨z1, h1, w1⟩ := hi 1 _ .i64 rfl cells64 Tryd.underlying3
    obtain ⟨z2, h2, w2⟩ := hi 2 _ .i64 rfl cells64 Tryd.underlying3
    obtain ⟨z3, h3, w3⟩ := hi 3 _ .i64 rfl cells64 Tryd.underlying3
    simp at hs h1 h2 h3 hn
    subst hs h1 h2 h3 hn
    exact ⟨n, z1, z2, z3, rfl, by unfold maxLen at hz; omega⟩

/-- the three boxes of a call -/
structure Thr (w W : World) (r h : Int) (s : ByteArray) (uc up uv : Int) (k u m st x : Int) (c : Bool) (mk : Int) : Prop where
  cu : Box W w.heap.size 23 #[.int .i64 r, .int .i64 h]
  un : Box W (w.heap.size + 1) 34 #[.string s, .int .i64 uc, .int .i64 up, .int .i64 uv]
  ins : Box W (w.heap.size + 2) 36 #[.int .i64 k, .int .i64 u, .int .i64 m, .int .i64 st, .int .i64 x, .bool c, .int .i64 mk]
  low : Below w.heap.size w W
theorem thr_new (w : World) (r h : Int) (s : ByteArray) (uc up uv : Int) (k u m st x : Int) (c : Bool) (mk : Int) :
    Thr w (((w.alloc (.cells #[.int .i64 r, .int .i64 h] 23)).alloc (.cells #[.string s, .int .i64 uc, .int .i64 up, .int .i64 uv] 34)).alloc (.cells #[.int .i64 k, .int .i64 u, .int .i64 m, .int .i64 st, .int .i64 x, .bool c, .int .i64 mk] 36)) r h s uc up uv k u m st x c mk := by
  have b1 := Box.new w 23 #[.int .i64 r, .int .i64 h]
  have b2 := Box.new (w.alloc (.cells #[.int .i64 r, .int .i64 h] 23)) 34 #[.string s, .int .i64 uc, .int .i64 up, .int .i64 uv]
  have b3 := Box.new ((w.alloc (.cells #[.int .i64 r, .int .i64 h] 23)).alloc (.cells #[.string s, .int .i64 uc, .int .i64 up, .int .i64 uv] 34)) 36 #[.int .i64 k, .int .i64 u, .int .i64 m, .int .i64 st, .int .i64 x, .bool c, .int .i64 mk]
  simp only [World.size_alloc, Nat.add_assoc, Nat.reduceAdd] at b2 b3
  exact ⟨(b1.alloc _).alloc _, b2.alloc _, b3, (((Below.refl _ _).alloc (Nat.le_refl _) _).alloc (by simp) _).alloc (by simp; omega) _⟩
section
variable {w A B : World} {r h : Int} {s : ByteArray} {uc up uv : Int} {k u m st x : Int} {c : Bool} {mk : Int}
theorem Thr.keep (t : Thr w A r h s uc up uv k u m st x c mk) (hb : Below A.heap.size A B) : Thr w B r h s uc up uv k u m st x c mk :=
  ⟨t.cu.keep hb, t.un.keep hb, t.ins.keep hb, t.low.trans (hb.mono t.low.size)⟩
theorem Thr.drew (t : Thr w A r h s uc up uv k u m st x c mk) : Thr w A.drew r h s uc up uv k u m st x c mk :=
  ⟨t.cu, t.un, t.ins, t.low.os, t.low.tape, t.low.output, t.low.size, t.low.block⟩
theorem thr_same (t : Thr w A r h s uc up uv k u m st x c mk) (h2 : A = B) : Thr w B r h s uc up uv k u m st x c mk := h2 ▸ t
theorem low_of (t : Thr w B r h s uc up uv k u m st x c mk) : Below w.heap.size w B := t.low
end

set_option maxHeartbeats 16000000 in
set_option maxRecDepth 100000 in
theorem walk (r h : Int) (s : ByteArray) (uc up uv : Int) (k u m st x : Int) (c : Bool) (mk : Int) (w : World) (hs : s.size ≤ 9223372036854775807) :
    Calls Tryd.prog 6 #[curV r h, underV s uc up uv, instrV k u m st x c mk] w fun e w' => e = .returned (.bool true) ∧ Below w.heap.size w w' := by
  unfold curV underV instrV
  have D0 := Lib.hid (fun W => wakes_calls W)
  have X := thr_new w r h s uc up uv k u m st x c mk
  go_enter Tryd.func6, Tryd.ntmps6
  go_upto_region 1 with fail
  generalize (((w.alloc (.cells #[.int .i64 r, .int .i64 h] 23)).alloc (.cells #[.string s, .int .i64 uc, .int .i64 up, .int .i64 uv] 34)).alloc (.cells #[.int .i64 k, .int .i64 u, .int .i64 m, .int .i64 st, .int .i64 x, .bool c, .int .i64 mk] 36)) = w0 at X ⊢
  go_wp2_with (go_at_call 7; refine (D0.out _).mono ?_; rintro e w1 ⟨rfl, b1⟩; have X1 := X.keep b1; clear X b1)
  go_loopw [7] (fun i wr => ∃ j : Nat, j ≤ 7 ∧ i = .int .i64 ((j : Int) - 1) ∧ Thr w wr r h s uc up uv k u m st x c mk) (fun i _ => (6 - intOf i).toNat)
  case atStart => exact ⟨0, by omega, rfl, X1⟩
  case round =>
    clear X1
    obtain ⟨j, hj, rfl, X⟩ := hrel
    by_cases hlt : j < 7
    · have C1 := fun W => cur_calls r h ((j : Int) - 1) W
      have C2 := fun W => rcur_calls r h ((j : Int) - 1) W
      have C3 := fun W => under_calls s uc up uv ((j : Int) - 1) W hs (by omega)
      have C4 := fun W => runder_calls s uc up uv ((j : Int) - 1) W hs
      have C5 := fun W => instr_calls k u m st x c mk ((j : Int) - 1) W (by omega)
      have C6 := fun W => rinstr_calls k u m st x c mk ((j : Int) - 1) W
      generalize curF r h ((j : Int) - 1) = b1 at C1 C2
      generalize underF s uc up uv ((j : Int) - 1) = b2 at C3 C4
      generalize instrF k u m st x c mk ((j : Int) - 1) = b3 at C5 C6
      unfold curV at C1 C2
      unfold underV at C3 C4
      unfold instrV at C5 C6
      have D1 := Lib.hid C1
      have D2 := Lib.hid C2
      have D3 := Lib.hid C3
      have D4 := Lib.hid C4
      have D5 := Lib.hid C5
      have D6 := Lib.hid C6
      clear C1 C2 C3 C4 C5 C6
      go_upto_region 6 with fail
      have X0 := X.drew
      have c0 := X0.cu.cell 0; have c1 := X0.cu.cell 1; have u0 := X0.un.cell 0; have u1 := X0.un.cell 1; have u2 := X0.un.cell 2; have u3 := X0.un.cell 3; have i0 := X0.ins.cell 0; have i1 := X0.ins.cell 1; have i2 := X0.ins.cell 2; have i3 := X0.ins.cell 3; have i4 := X0.ins.cell 4; have i5 := X0.ins.cell 5; have i6 := X0.ins.cell 6
      have hmx : Tryd.prog.follows .mixedOrders = true := by kernel_rfl
      go_region_held3 (fun W => W.cell? ⟨w.heap.size, 0, none⟩ = some (.int .i64 r) ∧ W.cell? ⟨w.heap.size, 1, none⟩ = some (.int .i64 h) ∧ W.cell? ⟨w.heap.size + 1, 0, none⟩ = some (.string s) ∧ W.cell? ⟨w.heap.size + 1, 1, none⟩ = some (.int .i64 uc) ∧ W.cell? ⟨w.heap.size + 1, 2, none⟩ = some (.int .i64 up) ∧ W.cell? ⟨w.heap.size + 1, 3, none⟩ = some (.int .i64 uv) ∧ W.cell? ⟨w.heap.size + 2, 0, none⟩ = some (.int .i64 k) ∧ W.cell? ⟨w.heap.size + 2, 1, none⟩ = some (.int .i64 u) ∧ W.cell? ⟨w.heap.size + 2, 2, none⟩ = some (.int .i64 m) ∧ W.cell? ⟨w.heap.size + 2, 3, none⟩ = some (.int .i64 st) ∧ W.cell? ⟨w.heap.size + 2, 4, none⟩ = some (.int .i64 x) ∧ W.cell? ⟨w.heap.size + 2, 5, none⟩ = some (.bool c) ∧ W.cell? ⟨w.heap.size + 2, 6, none⟩ = some (.int .i64 mk) ∧ Thr w W r h s uc up uv k u m st x c mk) (first | exact ⟨X9.cu.cell 0, X9.cu.cell 1, X9.un.cell 0, X9.un.cell 1, X9.un.cell 2, X9.un.cell 3, X9.ins.cell 0, X9.ins.cell 1, X9.ins.cell 2, X9.ins.cell 3, X9.ins.cell 4, X9.ins.cell 5, X9.ins.cell 6, X9⟩ | exact ⟨X0.cu.cell 0, X0.cu.cell 1, X0.un.cell 0, X0.un.cell 1, X0.un.cell 2, X0.un.cell 3, X0.ins.cell 0, X0.ins.cell 1, X0.ins.cell 2, X0.ins.cell 3, X0.ins.cell 4, X0.ins.cell 5, X0.ins.cell 6, X0⟩ | go_keep) (first | (go_at_call 12; refine (D1.out _).mono ?_; rintro e w2 ⟨rfl, bb⟩; go_split_ands; have X9 := Thr.keep (by assumption) bb) | (go_at_call 13; refine (D2.out _).mono ?_; rintro e w2 ⟨rfl, bb⟩; go_split_ands; have X9 := Thr.keep (by assumption) bb) | (go_at_call 14; refine (D3.out _).mono ?_; rintro e w2 ⟨rfl, bb⟩; go_split_ands; have X9 := Thr.keep (by assumption) bb) | (go_at_call 15; refine (D4.out _).mono ?_; rintro e w2 ⟨rfl, bb⟩; go_split_ands; have X9 := Thr.keep (by assumption) bb) | (go_at_call 16; refine (D5.out _).mono ?_; rintro e w2 ⟨rfl, bb⟩; go_split_ands; have X9 := Thr.keep (by assumption) bb) | (go_at_call 17; refine (D6.out _).mono ?_; rintro e w2 ⟨rfl, bb⟩; go_split_ands; have X9 := Thr.keep (by assumption) bb))
      go_split_ands
      clear D1 D2 D3 D4 D5 D6
      skip
      go_wp2_with fail
      go_roundw
      case rel => exact ⟨j + 1, by omega, by go_num, by assumption⟩
      case measure => simp [intOf]; omega
    · obtain rfl : j = 7 := by omega
      have C1 := fun W => name_calls s W hs
      have C2 := fun W => rname_calls s W hs
      generalize nameF s = b at C1 C2
      have D1 := Lib.hid C1
      have D2 := Lib.hid C2
      clear C1 C2
      go_upto_region 8 with fail
      have X0 := X.drew
      have hmx : Tryd.prog.follows .mixedOrders = true := by kernel_rfl
      go_region_held3 (fun W => W.cell? ⟨w.heap.size + 1, 0, none⟩ = some (.string s) ∧ Thr w W r h s uc up uv k u m st x c mk) (first | exact ⟨X9.un.cell 0, X9⟩ | exact ⟨X0.un.cell 0, X0⟩ | go_keep) (first | (go_at_call 18; refine (D1.out _).mono ?_; rintro e w2 ⟨rfl, bb⟩; go_split_ands; have X9 := Thr.keep (by assumption) bb) | (go_at_call 19; refine (D2.out _).mono ?_; rintro e w2 ⟨rfl, hww⟩; go_split_ands; have X9 := thr_same (by assumption) hww))
      go_split_ands
      skip
      go_wp2_with fail
      go_ret
      exact ⟨rfl, low_of (r := r) (h := h) (s := s) (uc := uc) (up := up) (uv := uv) (k := k) (u := u) (m := m) (st := st) (x := x) (c := c) (mk := mk) (by assumption)⟩

theorem opened (H : Type) (enc : TypeId × Value → H) (W : World) (base : Nat) (args : Array Value) (ds : List (DataW H)) (p : List MemPlace)
    (hval : ∀ (j : Nat) t v, Tryd.f6.params[j]? = some t → args[j]? = some v → Value.okWide Tryd.prog W .any base t v)
    (hA : DataW.TrodAll enc Tryd.prog W 0 (fun _ => true) true Tryd.f6.params.toList args.toList ds p)
    (hr : ∀ x ∈ DataW.weightsEach Tryd.prog Tryd.f6.params.toList ds, x ≤ reachBytes)
    (hL : laidMetH Tryd.prog Rows.refThingsRow.laid W) :
    Calls Tryd.prog 6 args W fun e W' => e = .returned (.bool true) ∧ Below W.heap.size W W' := by
  rw [Tryd.params6] at hA hval hr
  have _ := hL
  obtain ⟨v0, vs0, d0, ds0, p0, q0, hargs, rfl, rfl, h0, r0⟩ := trodAll_cons hA
  obtain ⟨v1, vs1, d1, ds1, p1, q1, rfl, rfl, rfl, h1, r1⟩ := trodAll_cons r0
  obtain ⟨v2, vs2, d2, ds2, p2, q2, rfl, rfl, rfl, h2, r2⟩ := trodAll_cons r1
  obtain ⟨rfl, rfl, rfl⟩ := trodAll_nil r2
  obtain rfl : args = #[v0, v1, v2] := by cases args; simp_all
  obtain ⟨r, h, rfl, _, _⟩ := open_cur (hval 0 23 v0 rfl rfl) h0
  obtain ⟨s, uc, up, uv, rfl, hs⟩ := open_under (hval 1 34 v1 rfl rfl) h1
  obtain ⟨k, u, m, st, x, c, mk, rfl⟩ := open_instr (hval 2 36 v2 rfl rfl) h2
  exact walk r h s uc up uv k u m st x c mk W hs
end Go.Proofs.YtghcbkkabhlchaaDoor.refThings
