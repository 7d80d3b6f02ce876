/- TreeAnswers: the walk, and the step from the law's arguments to it. -/
import Derived.Test.YtmnhmlbpaebabaaTreeLawBase
import Derived.Deep.Cut
import Derived.Deep.RegionHeld3
namespace Go.Proofs.Ytmnhmlbpaebabaa.treeAnswers
open Go.ChangeShapes Go.WideShapes Go.ChangeAt Go.RowKit Go.Shelf Go.Proofs.Ytmnhmlbpaebabaa.Bas Go.Proofs.Ytmnhmlbpaebabaa.TreeM Go.Proofs.Ytmnhmlbpaebabaa.TreeW
attribute [local go_sem] Oper.semAt_some

theorem eqIn_func_nil {P : Program} (d : Nat) (W : World) (t : TypeId) (s : TypeDesc) (f : Fn) (b c : Array Value) (h : P.underlying t = some s) (hs : ∃ a r v, s = .func a r v) : (Op.equalIn (d + 1) t (.func f b c) .nilFunc).run P W = .ok false W := by
  obtain ⟨a, r, v, rfl⟩ := hs
  simp [Op.equalIn, run_underlying h]
theorem seq_nil (W : World) (f : Fn) (b c : Array Value) : (binOp .eql 26 (.func f b c) .nilFunc).run Try.prog W = .ok (.bool false) W := by
  have h : (Op.equal 26 (.func f b c) .nilFunc).run Try.prog W = .ok false W := eqIn_func_nil 9999 W _ _ f b c Try.underlying26 ⟨_, _, _, rfl⟩
  simp only [binOp]
  simp [h]
attribute [local go_sem] seq_nil
/-- a call's variables: stop, the answer, want -/
structure Held (w W : World) (st : Int) (gw : Nat) (s : Value) (b : Bool) (want : List Nat) : Prop where
  st : Box W w.heap.size 3 #[.int .i64 st]
  rs : Box W (w.heap.size + 1) 4 #[.bool b]
  wb : Box W gw 22 #[s]
  row : W.ownsRow (w.heap.size + 2) 3 1 s want.length (i64s (ints want))
  low : Below w.heap.size w W
  hg : w.heap.size + 2 ≤ gw
theorem Held.keep {w A B : World} {st : Int} {gw : Nat} {s : Value} {b : Bool} {want : List Nat} (h : Held w A st gw s b want) (hb : Below A.heap.size A B) : Held w B st gw s b want :=
  ⟨h.st.keep hb, h.rs.keep hb, h.wb.keep hb, owns_below h.row hb, h.low.trans (hb.mono h.low.size), h.hg⟩
theorem Held.drewN {w A : World} {st : Int} {gw : Nat} {s : Value} {b : Bool} {want : List Nat} (h : Held w A st gw s b want) (n : Nat) : Held w (A.drewN n) st gw s b want :=
  ⟨h.st.drewN n, h.rs.drewN n, h.wb.drewN n, owns_drewN h.row n, below_drewN h.low n, h.hg⟩
theorem Held.drew {w A : World} {st : Int} {gw : Nat} {s : Value} {b : Bool} {want : List Nat} (h : Held w A st gw s b want) : Held w A.drew st gw s b want :=
  ⟨h.st, h.rs, h.wb, h.row, ⟨h.low.os, h.low.tape, h.low.output, h.low.size, h.low.block⟩, h.hg⟩
theorem own_far {w : World} {base : Nat} {e : TypeId} {size : Nat} {v : Value} {n : Nat} {xs : List Value} (h : w.ownsRow base e size v n xs) {p : Addr} (hp : ∀ k, v.ownBlock = some k → k ≠ p.block) (u : Value) : (w.setCell p u).ownsRow base e size v n xs := by
  refine ⟨h.1, ?_⟩
  rcases h.2 with hn | ⟨g, cap, cur, rfl, hbg, hg, r⟩
  · exact .inl hn
  · exact .inr ⟨g, cap, cur, rfl, hbg, (Below.heap_setCell w p u g (hp g rfl)).trans hg, r⟩
theorem row_own {β : Type} (base : Nat) (e : TypeId) (size : Nat) (v : Value) (n : Nat) (xs : List Value) (B : Nat) : OwnFrom B (fun (_ : β) W => W.ownsRow base e size v n xs) := by
  intro _ A C row hs hg hr
  refine ⟨hs.1, ?_⟩
  rcases hs.2 with hn | ⟨g, cap, cur, rfl, hbg, hgg, r⟩
  · exact .inl hn
  · exact .inr ⟨g, cap, cur, rfl, hbg, Box.grown (t := e) (cs := cur) hgg hg (fun r e => (hr r e).2), r⟩
theorem held_own {β : Type} (w : World) (st : Int) (gw : Nat) (s : Value) (b : Bool) (want : List Nat) {B : Nat} (hB : w.heap.size ≤ B) : OwnFrom B (fun (_ : β) W => Held w W st gw s b want) :=
  fun x A C row hs hg hr => ⟨box_own (β := β) _ _ _ B x A C row hs.st hg hr, box_own (β := β) _ _ _ B x A C row hs.rs hg hr, box_own (β := β) _ _ _ B x A C row hs.wb hg hr, row_own (β := β) _ _ _ _ _ _ B x A C row hs.row hg hr,
    ownFrom_below (β := β) (Nat.le_refl _) hB x A C row hs.low hg hr, hs.hg⟩
/-- a block of its own turned, newer than want and its row -/
theorem Held.far {w A : World} {st : Int} {gw : Nat} {s : Value} {b : Bool} {want : List Nat} (h : Held w A st gw s b want) {g : Nat} (hg : gw < g) (hs : ∀ k, s.ownBlock = some k → k < g) (u : Value) : Held w (A.setCell ⟨g, 0, none⟩ u) st gw s b want :=
  ⟨h.st.far (by have := h.hg; simp; omega) _, h.rs.far (by have := h.hg; simp; omega) _, h.wb.far (by simp; omega) _, own_far h.row (fun k hk => by have := hs k hk; simp; omega) _, h.low.setCell (p := ⟨g, 0, none⟩) (by have := h.hg; simp; omega) _, h.hg⟩
theorem Held.set {w A : World} {st : Int} {gw : Nat} {s : Value} {b : Bool} {want : List Nat} (h : Held w A st gw s b want) (c : Bool) : Held w (A.setCell ⟨w.heap.size + 1, 0, none⟩ (.bool c)) st gw s c want :=
  ⟨h.st.far (by simp) _, by simpa using h.rs.set 0 (.bool c), h.wb.far (by have := h.hg; simp; omega) _, own_far h.row (fun k hk => by have := (h.row.lt k hk).1; simp; omega) _, h.low.setCell (p := ⟨w.heap.size + 1, 0, none⟩) (by simp) _, h.hg⟩

theorem want_cell {w W : World} {st : Int} {gw n cw : Nat} {aw : Option Addr} {b : Bool} {want : List Nat} (h : Held w W st gw (.slice aw n cw) b want) (i : Nat) (hi : i < want.length) : ∃ blk off, aw = some ⟨blk, off, none⟩ ∧ W.cell? ⟨blk, off + i, none⟩ = some (.int .i64 ((want.getD i 0 : Nat) : Int)) := by
  obtain ⟨_, _, hv, _, _, hat, _, _⟩ := at_of_owns h.row
  cases hv
  have := hat i _ (i64s_get (ints want) i (by rw [ints_len]; exact hi))
  have e : (ints want)[i]'(by rw [ints_len]; exact hi) = ((want.getD i 0 : Nat) : Int) := by simp [ints, hi]
  rwa [e] at this
theorem pre_snoc {l m : List Nat} (h : l <+: m) (hl : l.length < m.length) : l ++ [m.getD l.length 0] <+: m := by
  obtain ⟨t, rfl⟩ := h
  cases t with
  | nil => simp at hl
  | cons y t => exact ⟨t, by simp⟩
theorem pre_not {l m : List Nat} {x : Nat} (h : x ≠ m.getD l.length 0) : ¬ (l ++ [x] <+: m) := by
  rintro ⟨t, rfl⟩
  exact h (by simp)
theorem below_nil {ps : List Int} {v : Int} (h : aboveF ps v = []) : belowF ps v = [] := by
  unfold belowF
  by_cases hok : Ok ps ∧ 0 ≤ v ∧ v < ps.length
  · rw [aboveF_yes hok] at h
    have := chain_pos ps v.toNat
    rw [h] at this; simp at this
  · rw [if_neg hok]

/-- what Below answers, as the law asks it -/
theorem tail_ok (a : Option Addr) (cap : Nat) (ps : List Int) (v : Int) (w : World) (hbig : ps.length * 8 ≤ 140737488351232) (hc : At w a (i64s ps)) (hx : ∀ x ∈ ps, I64 x) (want : List Nat) (hw : want = aboveF ps v) :
    (want.length = 0 → ∀ W, Below w.heap.size w W → Calls Try.prog 11 #[.slice a ps.length cap, .int .i64 v] W fun e w' => ∃ a8 c8, e = .returned (.slice a8 0 c8) ∧ Below W.heap.size W w') ∧
    (want.length ≠ 0 → ∃ xs : List Int, xs.length ≤ 16 ∧ (∀ W, Below w.heap.size w W → Calls Try.prog 11 #[.slice a ps.length cap, .int .i64 v] W fun e w' => ∃ a8 c8, e = .returned (.slice a8 xs.length c8) ∧ At w' a8 (i64s xs) ∧ Below W.heap.size W w') ∧
      (∀ W, Below w.heap.size w W → Calls Try.prog 13 #[.slice a ps.length cap, .int .i64 v] W fun e w' => ∃ a8 c8, e = .returned (.slice a8 xs.length c8) ∧ At w' a8 (i64s xs) ∧ Below W.heap.size W w') ∧
      (∀ W a b ca cb, At W a (i64s xs) → At W b (i64s xs) → Calls Try.prog 12 #[.slice a xs.length ca, .slice b xs.length cb] W fun e w' => e = .returned (.bool true) ∧ ∃ n, w' = W.drewN n)) := by
  refine ⟨fun h0 W hW => ?_, fun h0 => ?_⟩
  · have e := below_nil (ps := ps) (v := v) (by rw [← hw]; exact List.eq_nil_of_length_eq_zero h0)
    have C := below_calls a cap ps v W hbig (hc.keep hW) hx
    rw [e] at C
    refine C.mono ?_
    rintro e w8 ⟨s, rfl, own, b⟩
    obtain ⟨a8, c8, rfl, _⟩ := at_of_owns own
    exact ⟨a8, c8, rfl, b⟩
  · have hok : Ok ps ∧ 0 ≤ v ∧ v < ps.length := Decidable.byContradiction fun h => h0 (by rw [hw, aboveF_no h]; rfl)
    have hl : (belowF ps v).length ≤ 16 := by
      unfold belowF
      rw [if_pos hok]
      exact Nat.le_trans (belowN_len _ _ _) hok.1.2.1
    have hi := ints_len (belowF ps v)
    refine ⟨ints (belowF ps v), by omega, fun W hW => ?_, fun W hW => ?_, fun W a b ca cb h1 h2 => ?_⟩
    · refine (below_calls a cap ps v W hbig (hc.keep hW) hx).mono ?_
      rintro e w8 ⟨s, rfl, own, b⟩
      obtain ⟨a8, c8, rfl, _, _, hat, _⟩ := at_of_owns own
      exact ⟨a8, c8, by rw [hi], hat, b⟩
    · have C := rbelow_calls a cap ps v W hbig (hc.keep hW) hx
      rw [rbelow_is hok] at C
      refine C.mono ?_
      rintro e w8 ⟨s, rfl, own, b⟩
      obtain ⟨a8, c8, rfl, _, _, hat, _⟩ := at_of_owns own
      exact ⟨a8, c8, by rw [hi], hat, b⟩
    · have C := same_calls a b ca cb (ints (belowF ps v)) (ints (belowF ps v)) W (by omega) (by omega) h1 h2
      rw [decide_eq_true rfl] at C
      exact C

set_option maxHeartbeats 4000000 in
set_option maxRecDepth 100000 in
theorem walk (a : Option Addr) (cap : Nat) (ps : List Int) (v st : Int) (w : World) (hbig : ps.length * 8 ≤ 140737488351232) (hc : At w a (i64s ps)) (hx : ∀ x ∈ ps, I64 x) :
    Calls Try.prog 3 #[.slice a ps.length cap, .int .i64 v, .int .i64 st] w fun e w' => e = .returned (.bool true) ∧ Below w.heap.size w w' := by
  have C0 := Lib.hid (fun W => wakes_calls W)
  have C1 := Lib.hid (fun W h => rabove_calls a cap ps v W (by omega) h hx)
  have C2 := Lib.hid (fun W h => above_calls a cap ps v W hbig h)
  have C3 := Lib.hid (fun W h => depth_calls a cap ps v W hbig h hx)
  have HC := Lib.hid hc
  have HX := Lib.hid hx
  clear hc hx
  have hN := aboveF_len ps v
  refine (callsIn_wide (n := 9)).1 (callsIn_of_wp_marks Try.func3 rfl trivial ?_ rfl)
  refine wpIn_wide.2 ?_
  simp only [Try.ntmps3, List.size_toArray, List.length_cons, List.length_nil, Nat.reduceAdd, Nat.reduceSub, Array.replicate_succ, Array.replicate_zero, List.push_toArray, List.append_toArray, List.nil_append, List.cons_append]
  go_upto_region 1 with fail
  have S0 := (Box.new w 3 #[.int .i64 st]).alloc (.cells #[.bool false] 4)
  have R0 : Box ((w.alloc (.cells #[.int .i64 st] 3)).alloc (.cells #[.bool false] 4)) (w.heap.size + 1) 4 #[.bool false] := by
    have := Box.new (w.alloc (.cells #[.int .i64 st] 3)) 4 #[.bool false]
    simpa using this
  have B0 := ((Below.refl w.heap.size w).alloc (Nat.le_refl _) (.cells #[.int .i64 st] 3)).alloc (by simp) (.cells #[.bool false] 4)
  have z0 : ((w.alloc (.cells #[.int .i64 st] 3)).alloc (.cells #[.bool false] 4)).heap.size = w.heap.size + 2 := by simp
  generalize (w.alloc (.cells #[.int .i64 st] 3)).alloc (.cells #[.bool false] 4) = w0 at *
  go_wp2_with (first
    | (go_at_call 7; refine (C0.out _).mono ?_; rintro e w1 ⟨rfl, b1⟩; have B1 := B0.trans (b1.mono (by omega)); have S1 := S0.keep b1; have R1 := R0.keep b1; have z1 := b1.size; clear S0 R0 b1)
    | (go_at_call 8; refine (C1.out _ (HC.out.keep B1)).mono ?_; rintro e w2 ⟨s, rfl, own2, b2⟩; have B2 := B1.trans (b2.mono B1.size); have S2 := S1.keep b2; have R2 := R1.keep b2; have z2 := b2.size; clear S1 R1; obtain ⟨aw, cw, rfl, hq1, hq2, hat2, hq3, hq4⟩ := at_of_owns own2; clear hq1 hq2 hq3 hq4 hat2))
  have zz2 := B2.size
  have X3 : Held w (w2.alloc (.cells #[.slice aw (aboveF ps v).length cw] 22)) st w2.heap.size (.slice aw (aboveF ps v).length cw) false (aboveF ps v) :=
    ⟨S2.alloc _, R2.alloc _, Box.new _ _ _, own_mono (own2.alloc _) (by omega), B2.alloc zz2 _, by omega⟩
  have hsb : ∀ k, (Value.slice aw (aboveF ps v).length cw).ownBlock = some k → k < (w2.alloc (.cells #[.slice aw (aboveF ps v).length cw] 22)).heap.size := fun k hk => by
    have := (own2.lt k hk).2
    simp; omega
  have hg3 : w2.heap.size < (w2.alloc (.cells #[.slice aw (aboveF ps v).length cw] 22)).heap.size := by simp
  clear own2 S2 R2 B2 b2 B1 B0 z0 z1 z2 zz2
  generalize w2.heap.size = gw at *
  generalize w2.alloc (.cells #[.slice aw (aboveF ps v).length cw] 22) = w3 at *
  refine (C2.out _ (HC.out.keep X3.low)).mono ?_
  rintro e w4 ⟨go, gv, s4, rfl, K4, b4⟩
  unfold seqF
  have X4 := X3.keep b4
  clear X3 C0 C1 C2
  have D3 := Lib.hid (fun W (h : Held w W st gw (.slice aw (aboveF ps v).length cw) false (aboveF ps v)) => C3.out W (HC.out.keep (w' := W) h.low))
  have hz4 := b4.size
  clear C3
  go_upto_region 5 with fail
  have hmx : Try.prog.follows .mixedOrders = true := by kernel_rfl
  generalize hN2 : (aboveF ps v).length = n at *
  have cw0 := X4.wb.cell 0
  have Y4 : Below w4.heap.size w4 w4.drew := ⟨rfl, rfl, rfl, Nat.le_refl _, fun _ _ => rfl⟩
  have X4d := X4.drew
  go_region_held3 (fun W => W.cell? ⟨gw, 0, none⟩ = some (.slice aw n cw) ∧ Held w W st gw (.slice aw n cw) false (aboveF ps v) ∧ Below w4.heap.size w4 W) (first | exact ⟨X9.wb.cell 0, X9, Y9⟩ | exact ⟨X4d.wb.cell 0, X4d, Y4⟩ | go_keep) (first | (go_at_call 10; refine (D3.out _ (by go_split_ands; assumption)).mono ?_; rintro e w5 ⟨rfl, bb⟩; go_split_ands; have X9 := Held.keep (by assumption) bb; have Y9 := Below.trans (by assumption) (bb.mono (Below.size (by assumption)))))
  have X5 := X9
  have Y5 := Y9
  rename_i hold
  clear hold X4 X4d Y4 bb X9 Y9 cw0 D3
  go_wp2_with fail
  refine wp_loop_rounds 3 ?_
  rw [rounds_succ]
  go_wp2_with fail
  obtain ⟨want, hwant⟩ : ∃ want, want = aboveF ps v := ⟨_, rfl⟩
  have S4 := fun (W : World) (h : Below w4.heap.size w4 W) => above_stops 8 (by decide) w3.heap.size w4.heap.size go gv s4 ps v hbig HX.out W (K4.below h (Nat.le_refl _)) h.size
  rw [← hwant] at X5 hN2
  rw [← hwant] at S4
  have HW := Lib.hid hwant
  have HS4 := Lib.hid S4
  clear hwant S4
  have hs4 := X5.low.size
  have hwg := X5.hg
  have hgw5 : gw < w5.heap.size := X5.wb.lt
  have HSB : Hid (∀ k, (Value.slice aw n cw).ownBlock = some k → k < w4.heap.size) := fun k hk => Nat.lt_of_lt_of_le (hsb k hk) hz4
  have X6_1 : Held w (w5.alloc (.cells #[.int .i64 0] 3)) st gw (.slice aw n cw) false want := X5.keep ((Below.refl _ _).alloc (Nat.le_refl _) _)
  have G6_1 : Box (w5.alloc (.cells #[.int .i64 0] 3)) w5.heap.size 3 #[.int .i64 (0 : Nat)] := Box.new _ _ _
  have Y6_1 : Below w4.heap.size w4 (w5.alloc (.cells #[.int .i64 0] 3)) := Y5.alloc Y5.size _
  have hg_1 : gw < w5.heap.size := X5.wb.lt
  have hh_1 : w4.heap.size ≤ w5.heap.size := Y5.size
  clear X5 Y5
  generalize w5.heap.size = g1 at *
  generalize w5.alloc (.cells #[.int .i64 0] 3) = W1 at *
  have hz_1 := X6_1.low.size
  have hy_1 := Y6_1.size
  refine wpIn_wide.1 (wpIn_rangeFunc_ownF (n := 9) (encs := encN) rfl (by decide) (gf := 19) (lb := #[.pointer (some ⟨go, 0, none⟩), .pointer (some ⟨gv, 0, none⟩)]) rfl trivial (enters_of Try.func19 (by kernel_rfl) rfl)
    (HS4.out W1 Y6_1) span_t (Span.put hy_1) (Below.refl _ _) (fun _ => rfl)
    (fun pre W => Held w W st gw (.slice aw n cw) false want ∧ Box W g1 3 #[.int .i64 (pre.length : Nat)] ∧ Below w4.heap.size w4 W ∧ pre <+: want)
    (fun _ pre _ => ¬ pre <+: want)
    ((held_own w st gw _ false want hz_1).and ((count_own g1 _ _).and ((ownFrom_below (Nat.le_refl _) hy_1).and (own_pure (fun pre => pre <+: want) _)))) (fun c => own_pure (fun pre => ¬ pre <+: want) _) ⟨X6_1, G6_1, Y6_1, List.nil_prefix⟩
    _ (by intro l x W K hK; unfold encN; gi_wp2; exact hK) ?body1 ?done1 ?stop1)
  case body1 =>
    rintro l pre x W ⟨hX, hG, hY, hpre⟩ hlen
    obtain ⟨blk, off, rfl, hcell⟩ := want_cell hX pre.length hlen
    have cn := hG.cell 0
    have fn := hG.frozen 0
    have cw0 := hX.wb.cell 0
    have fr6 := hX.rs.frozen 0
    have cr6 := hX.rs.cell 0
    have hln : pre.length < n := by omega
    have HP := Lib.hid (pre_snoc hpre hlen)
    have HPn := Lib.hid (fun (h : x ≠ want.getD pre.length 0) => pre_not h)
    generalize want.getD pre.length 0 = y at *
    have HG := Lib.hid (hG.set 0 (.int .i64 ((pre.length : Int) + 1)))
    have HK := Lib.hid (KeepsOthers.setCell W ⟨g1, 0, none⟩ (.int .i64 ((pre.length : Int) + 1)))
    have HX6 := Lib.hid (hX.far hg_1 (fun k hk => Nat.lt_of_lt_of_le (HSB.out k hk) hh_1) (.int .i64 ((pre.length : Int) + 1)))
    have HY := Lib.hid (hY.setCell (p := ⟨g1, 0, none⟩) hh_1 (.int .i64 ((pre.length : Int) + 1)))
    have HS := Lib.hid (Span.set (lo := w3.heap.size) (hi := w4.heap.size) W ⟨g1, 0, none⟩ (.int .i64 ((pre.length : Int) + 1)) (.inr hh_1))
    have HK2 := Lib.hid (KeepsOthers.setCell W ⟨w.heap.size + 1, 0, none⟩ (.bool false))
    clear hpre
    by_cases hxy : x = y
    · have hne : ((y : Int) != (x : Int)) = false := by simp [hxy]
      have HXY := Lib.hid hxy
      clear hxy
      gi_wp2
      exact ⟨HK.out, HS.out, HX6.out, by have := HG.out; simpa using this, HY.out, by rw [HXY.out]; exact HP.out⟩
    · have hne : ((y : Int) != (x : Int)) = true := by simp; omega
      have HXY := Lib.hid hxy
      clear hxy
      gi_wp2
      exact ⟨HK2.out, HPn.out HXY.out⟩
  case done1 =>
    rintro D1 ys W hD hys ⟨hX, hG, hY, _⟩ hK
    obtain rfl : want = ys := hys.symm
    have hM1 : MarkAt W D1 := hK
    have cn := hG.cell 0
    have cw0 := hX.wb.cell 0
    rw [hN2] at cn
    clear hK
    skip
    go_wp2_with fail
    rw [rounds_succ]
    go_wp2_with fail
    have X6_2 : Held w (W.alloc (.cells #[.int .i64 0] 3)) st gw (.slice aw n cw) false want := hX.keep ((Below.refl _ _).alloc (Nat.le_refl _) _)
    have G6_2 : Box (W.alloc (.cells #[.int .i64 0] 3)) W.heap.size 3 #[.int .i64 (0 : Nat)] := Box.new _ _ _
    have Y6_2 : Below w4.heap.size w4 (W.alloc (.cells #[.int .i64 0] 3)) := hY.alloc hY.size _
    have hg_2 : gw < W.heap.size := hX.wb.lt
    have hh_2 : w4.heap.size ≤ W.heap.size := hY.size
    have M1_2 : MarkAt (W.alloc (.cells #[.int .i64 0] 3)) D1 := MarkAt.keep hM1 (KeepsOthers.alloc W _)
    have hD1_2 : D1 < (W.alloc (.cells #[.int .i64 0] 3)).heap.size := (Array.getElem?_eq_some_iff.1 M1_2).1
    clear hX hY
    generalize W.heap.size = g2 at *
    generalize W.alloc (.cells #[.int .i64 0] 3) = W2 at *
    have hz_2 := X6_2.low.size
    have hy_2 := Y6_2.size
    refine wpIn_wide.1 (wpIn_rangeFunc_ownF (n := 9) (encs := encN) rfl (by decide) (gf := 19) (lb := #[.pointer (some ⟨go, 0, none⟩), .pointer (some ⟨gv, 0, none⟩)]) rfl trivial (enters_of Try.func19 (by kernel_rfl) rfl)
      (HS4.out W2 Y6_2) span_t (Span.put hy_2) (Below.refl _ _) (fun _ => rfl)
      (fun pre W => Held w W st gw (.slice aw n cw) false want ∧ Box W g2 3 #[.int .i64 (pre.length : Nat)] ∧ Below w4.heap.size w4 W ∧ MarkAt W D1 ∧ pre <+: want)
      (fun _ pre _ => ¬ pre <+: want)
      ((held_own w st gw _ false want hz_2).and ((count_own g2 _ _).and ((ownFrom_below (Nat.le_refl _) hy_2).and ((mark_own D1 hD1_2).and (own_pure (fun pre => pre <+: want) _))))) (fun c => own_pure (fun pre => ¬ pre <+: want) _) ⟨X6_2, G6_2, Y6_2, M1_2, List.nil_prefix⟩
      _ (by intro l x W K hK; unfold encN; gi_wp2; exact hK) ?body2 ?done2 ?stop2)
    case body2 =>
      rintro l pre x W ⟨hX, hG, hY, hM1, hpre⟩ hlen
      obtain ⟨blk, off, rfl, hcell⟩ := want_cell hX pre.length hlen
      have cn := hG.cell 0
      have fn := hG.frozen 0
      have cw0 := hX.wb.cell 0
      have fr6 := hX.rs.frozen 0
      have cr6 := hX.rs.cell 0
      have hln : pre.length < n := by omega
      have HP := Lib.hid (pre_snoc hpre hlen)
      have HPn := Lib.hid (fun (h : x ≠ want.getD pre.length 0) => pre_not h)
      generalize want.getD pre.length 0 = y at *
      have HG := Lib.hid (hG.set 0 (.int .i64 ((pre.length : Int) + 1)))
      have HK := Lib.hid (KeepsOthers.setCell W ⟨g2, 0, none⟩ (.int .i64 ((pre.length : Int) + 1)))
      have HX6 := Lib.hid (hX.far hg_2 (fun k hk => Nat.lt_of_lt_of_le (HSB.out k hk) hh_2) (.int .i64 ((pre.length : Int) + 1)))
      have HY := Lib.hid (hY.setCell (p := ⟨g2, 0, none⟩) hh_2 (.int .i64 ((pre.length : Int) + 1)))
      have HS := Lib.hid (Span.set (lo := w3.heap.size) (hi := w4.heap.size) W ⟨g2, 0, none⟩ (.int .i64 ((pre.length : Int) + 1)) (.inr hh_2))
      have HK2 := Lib.hid (KeepsOthers.setCell W ⟨w.heap.size + 1, 0, none⟩ (.bool false))
      clear hpre
      by_cases hxy : x = y
      · have hne : ((y : Int) != (x : Int)) = false := by simp [hxy]
        have HXY := Lib.hid hxy
        clear hxy
        gi_wp2
        exact ⟨HK.out, HS.out, HX6.out, by have := HG.out; simpa using this, HY.out, MarkAt.keep hM1 HK.out, by rw [HXY.out]; exact HP.out⟩
      · have hne : ((y : Int) != (x : Int)) = true := by simp; omega
        have HXY := Lib.hid hxy
        clear hxy
        gi_wp2
        exact ⟨HK2.out, HPn.out HXY.out⟩
    case done2 =>
      rintro D2 ys W hD hys ⟨hX, hG, hY, hM1, _⟩ hK
      obtain rfl : want = ys := hys.symm
      have hM2 : MarkAt W D2 := hK
      have cn := hG.cell 0
      have cw0 := hX.wb.cell 0
      rw [hN2] at cn
      clear hK
      skip
      go_wp2_with fail
      rw [rounds_succ]
      go_wp2_with fail
      have X6_3 : Held w (W.alloc (.cells #[.int .i64 0] 3)) st gw (.slice aw n cw) false want := hX.keep ((Below.refl _ _).alloc (Nat.le_refl _) _)
      have G6_3 : Box (W.alloc (.cells #[.int .i64 0] 3)) W.heap.size 3 #[.int .i64 (0 : Nat)] := Box.new _ _ _
      have Y6_3 : Below w4.heap.size w4 (W.alloc (.cells #[.int .i64 0] 3)) := hY.alloc hY.size _
      have hg_3 : gw < W.heap.size := hX.wb.lt
      have hh_3 : w4.heap.size ≤ W.heap.size := hY.size
      have M1_3 : MarkAt (W.alloc (.cells #[.int .i64 0] 3)) D1 := MarkAt.keep hM1 (KeepsOthers.alloc W _)
      have hD1_3 : D1 < (W.alloc (.cells #[.int .i64 0] 3)).heap.size := (Array.getElem?_eq_some_iff.1 M1_3).1
      have M2_3 : MarkAt (W.alloc (.cells #[.int .i64 0] 3)) D2 := MarkAt.keep hM2 (KeepsOthers.alloc W _)
      have hD2_3 : D2 < (W.alloc (.cells #[.int .i64 0] 3)).heap.size := (Array.getElem?_eq_some_iff.1 M2_3).1
      clear hX hY
      generalize W.heap.size = g3 at *
      generalize W.alloc (.cells #[.int .i64 0] 3) = W3 at *
      have hz_3 := X6_3.low.size
      have hy_3 := Y6_3.size
      refine wpIn_wide.1 (wpIn_rangeFunc_ownF (n := 9) (encs := encN) rfl (by decide) (gf := 19) (lb := #[.pointer (some ⟨go, 0, none⟩), .pointer (some ⟨gv, 0, none⟩)]) rfl trivial (enters_of Try.func19 (by kernel_rfl) rfl)
        (HS4.out W3 Y6_3) span_t (Span.put hy_3) (Below.refl _ _) (fun _ => rfl)
        (fun pre W => (Held w W st gw (.slice aw n cw) false want ∧ Box W g3 3 #[.int .i64 (pre.length : Nat)] ∧ Below w4.heap.size w4 W ∧ MarkAt W D1 ∧ MarkAt W D2) ∧ (pre = [] ∨ (pre.length : Int) < st))
        (fun c pre W => (Held w W st gw (.slice aw n cw) false want ∧ Box W g3 3 #[.int .i64 (pre.length : Nat)] ∧ Below w4.heap.size w4 W ∧ MarkAt W D1 ∧ MarkAt W D2) ∧ (c = .exit 4 ∧ st ≤ (pre.length : Int) ∧ 1 ≤ pre.length ∧ (pre.length = 1 ∨ (pre.length : Int) - 1 < st)))
        (((held_own w st gw _ false want hz_3).and ((count_own g3 _ _).and ((ownFrom_below (Nat.le_refl _) hy_3).and ((mark_own D1 hD1_3).and (mark_own D2 hD2_3))))).and (own_pure (fun (pre : List Nat) => pre = [] ∨ (pre.length : Int) < st) _))
        (fun c => ((held_own w st gw _ false want hz_3).and ((count_own g3 _ _).and ((ownFrom_below (Nat.le_refl _) hy_3).and ((mark_own D1 hD1_3).and (mark_own D2 hD2_3))))).and (own_pure (fun (pre : List Nat) => c = .exit 4 ∧ st ≤ (pre.length : Int) ∧ 1 ≤ pre.length ∧ (pre.length = 1 ∨ (pre.length : Int) - 1 < st)) _))
        ⟨⟨X6_3, G6_3, Y6_3, M1_3, M2_3⟩, .inl rfl⟩
        _ (by intro l x W K hK; unfold encN; gi_wp2; exact hK) ?body3 ?done3 ?stop3)
      case body3 =>
        rintro l pre x W ⟨⟨hX, hG, hY, hM1, hM2⟩, hs⟩ hlen
        have cn := hG.cell 0
        have fn := hG.frozen 0
        have c5 := hX.st.cell 0
        have HG := Lib.hid (hG.set 0 (.int .i64 ((pre.length : Int) + 1)))
        have HK := Lib.hid (KeepsOthers.setCell W ⟨g3, 0, none⟩ (.int .i64 ((pre.length : Int) + 1)))
        have HX6 := Lib.hid (hX.far hg_3 (fun k hk => Nat.lt_of_lt_of_le (HSB.out k hk) hh_3) (.int .i64 ((pre.length : Int) + 1)))
        have HY := Lib.hid (hY.setCell (p := ⟨g3, 0, none⟩) hh_3 (.int .i64 ((pre.length : Int) + 1)))
        have HS := Lib.hid (Span.set (lo := w3.heap.size) (hi := w4.heap.size) W ⟨g3, 0, none⟩ (.int .i64 ((pre.length : Int) + 1)) (.inr hh_3))
        have HQ := Lib.hid hs
        have hln : pre.length < n := by omega
        clear hs
        by_cases hge : st ≤ (pre.length : Int) + 1
        · have hd : decide (st ≤ (pre.length : Int) + 1) = true := decide_eq_true hge
          gi_wp2
          exact ⟨HK.out, ⟨HX6.out, by have := HG.out; simpa using this, HY.out, hM1.keep HK.out, hM2.keep HK.out⟩, rfl, by simp; omega, by simp, HQ.out.elim (fun h => .inl (by rw [h]; rfl)) (fun h => .inr (by simp; omega))⟩
        · gi_wp2
          exact ⟨HK.out, HS.out, ⟨HX6.out, by have := HG.out; simpa using this, HY.out, hM1.keep HK.out, hM2.keep HK.out⟩, .inr (by simp; omega)⟩
      case done3 =>
        rintro D3 ys W hD3 hys ⟨⟨hX, hG, hY, hM1, hM2⟩, hs⟩ hK
        obtain rfl : want = ys := hys.symm
        have hM3 : MarkAt W D3 := hK
        clear hK
        rw [hN2] at hG
        have hcnt : n ≤ n ∧ (1 ≤ st → (n : Int) = min st (n : Int)) := ⟨Nat.le_refl _, fun h1 => by
          rcases hs with h | h
          · rw [h] at hN2; simp at hN2; omega
          · omega⟩
        have HCN := Lib.hid hcnt
        clear hcnt
        obtain ⟨m, hm⟩ : ∃ m, m = n := ⟨n, rfl⟩
        rw [← hm] at hG
        have hcnt : m ≤ n ∧ (1 ≤ st → (m : Int) = min st (n : Int)) := by rw [hm]; exact HCN.out
        clear hm hs HCN
        have cn := hG.cell 0
        have cw0 := hX.wb.cell 0
        have c5 := hX.st.cell 0
        have fr6 := hX.rs.frozen 0
        have cr6 := hX.rs.cell 0
        have hmle : decide ((n : Int) < (m : Int)) = false := decide_eq_false (by have := hcnt.1; omega)
        have hms := Lib.hid hcnt.2
        clear hcnt
        have T0 := Lib.hid (tail_ok a cap ps v w hbig HC.out HX.out want HW.out)
        have hwl : want.length = n := hN2
        clear hN2
        clear HS4 HSB HC HX
        have HL := Lib.hid hX
        have HG1 := Lib.hid hM1
        have HG2 := Lib.hid hM2
        have HG3 := Lib.hid hM3
        clear hX hM1 hM2 hM3 hG hY X6_1 X6_2 X6_3
        have hmn : m ≤ n := by simpa using hmle
        by_cases h1 : 1 ≤ st
        · have hmm := hms.out h1
          clear hms
          by_cases h2 : st ≤ (n : Int)
          · obtain rfl : st = (m : Int) := by omega
            have hd : decide ((n : Int) < (m : Int)) = false := decide_eq_false (by omega)
            have h11 : decide ((1 : Int) ≤ (m : Int)) = true := decide_eq_true (by omega)
            have hne : ((m : Int) != (m : Int)) = false := by simp
            have hn0 : n ≠ 0 := by omega
            clear hmm h2
            have T1 := T0.out.2 (by omega)
            clear T0 hwl
            have hnz : ((n : Int) == 0) = false := by simp; omega
            obtain ⟨xs, hxs, T2⟩ := T1
            have HT := Lib.hid (T2.1 W HL.out.low)
            have HT2 := Lib.hid T2.2.1
            have HT3 := Lib.hid T2.2.2
            clear T2
            go_wp2_with (first
              | (go_at_call 11; refine HT.out.mono ?_; rintro e w8 ⟨a8, c8, rfl, at8, b8⟩; have L8 := HL.out.keep b8; have cw8 := L8.wb.cell 0; have HM := Lib.hid b8; have HA8 := Lib.hid at8; clear b8 at8)
              | (go_at_call 13; refine (HT2.out _ L8.low).mono ?_; rintro e w9 ⟨a9, c9, rfl, at9, b9⟩; have HM9 := Lib.hid b9; have L9 := L8.keep b9; have fr8 := L9.rs.frozen 0; have cr8 := L9.rs.cell 0; have HL8 := Lib.hid L9; have HA9 := Lib.hid at9; have HA10 := Lib.hid (HA8.out.keep b9); clear b9 at9 L8 L9 HA8)
              | (go_at_call 12; refine (HT3.out _ _ _ _ _ HA10.out HA9.out).mono ?_; rintro e w10 ⟨rfl, n10, rfl⟩))
            all_goals (have HK := Lib.hid (KeepsOthers.setCell (w9.drewN n10) ⟨w.heap.size + 1, 0, none⟩ (.bool true)); have HX1 := Lib.hid ((HL8.out.drewN n10).set true); refine leave_marks (B := w.heap.size) [D3, D2, D1] _ (by simp; omega) (by simp; omega) (by simp; exact ⟨(MarkAt.keep (A := w9.drewN n10) (show MarkAt w9 D3 from (HG3.out.below HM.out (by have := (Array.getElem?_eq_some_iff.1 HG3.out).1; omega)).below HM9.out (by have := (Array.getElem?_eq_some_iff.1 HG3.out).1; have := HM.out.size; omega)) HK.out), (MarkAt.keep (A := w9.drewN n10) (show MarkAt w9 D2 from (HG2.out.below HM.out (by have := (Array.getElem?_eq_some_iff.1 HG2.out).1; omega)).below HM9.out (by have := (Array.getElem?_eq_some_iff.1 HG2.out).1; have := HM.out.size; omega)) HK.out), (MarkAt.keep (A := w9.drewN n10) (show MarkAt w9 D1 from (HG1.out.below HM.out (by have := (Array.getElem?_eq_some_iff.1 HG1.out).1; omega)).below HM9.out (by have := (Array.getElem?_eq_some_iff.1 HG1.out).1; have := HM.out.size; omega)) HK.out)⟩) (fun W' hb hx => ?_); have c6 := (hx _ _ _ HX1.out.rs).cell 0; exact ⟨.bool true, by simp [results, Try.f3, go_sem, c6], rfl, HX1.out.low.trans hb⟩)
          · obtain rfl : m = n := by omega
            have hlt : (m : Int) < st := by omega
            have hne : ((m : Int) != (m : Int)) = false := by simp
            clear hmm h2 hmn
            by_cases hn0 : m = 0
            · subst hn0
              have T1 := T0.out.1 hwl W HL.out.low
              clear T0 hwl
              have HT := Lib.hid T1
              clear T1
              go_wp2_with (go_at_call 11; refine HT.out.mono ?_; rintro e w8 ⟨a8, c8, rfl, b8⟩; have L8 := HL.out.keep b8; have cw8 := L8.wb.cell 0; have fr8 := L8.rs.frozen 0; have cr8 := L8.rs.cell 0; have HL8 := Lib.hid L8; clear L8; have HM := Lib.hid b8; clear b8)
              all_goals (have HK := Lib.hid (KeepsOthers.setCell w8 ⟨w.heap.size + 1, 0, none⟩ (.bool true)); have HX1 := Lib.hid (HL8.out.set true); refine leave_marks (B := w.heap.size) [D3, D2, D1] _ (by simp; omega) (by simp; omega) (by simp; exact ⟨((HG3.out.below HM.out (by have := (Array.getElem?_eq_some_iff.1 HG3.out).1; omega)).keep HK.out), ((HG2.out.below HM.out (by have := (Array.getElem?_eq_some_iff.1 HG2.out).1; omega)).keep HK.out), ((HG1.out.below HM.out (by have := (Array.getElem?_eq_some_iff.1 HG1.out).1; omega)).keep HK.out)⟩) (fun W' hb hx => ?_); have c6 := (hx _ _ _ HX1.out.rs).cell 0; exact ⟨.bool true, by simp [results, Try.f3, go_sem, c6], rfl, HX1.out.low.trans hb⟩)
            · have T1 := T0.out.2 (by omega)
              clear T0 hwl
              have hnz : ((m : Int) == 0) = false := by simp; omega
              obtain ⟨xs, hxs, T2⟩ := T1
              have HT := Lib.hid (T2.1 W HL.out.low)
              have HT2 := Lib.hid T2.2.1
              have HT3 := Lib.hid T2.2.2
              clear T2
              go_wp2_with (first
                | (go_at_call 11; refine HT.out.mono ?_; rintro e w8 ⟨a8, c8, rfl, at8, b8⟩; have L8 := HL.out.keep b8; have cw8 := L8.wb.cell 0; have HM := Lib.hid b8; have HA8 := Lib.hid at8; clear b8 at8)
                | (go_at_call 13; refine (HT2.out _ L8.low).mono ?_; rintro e w9 ⟨a9, c9, rfl, at9, b9⟩; have HM9 := Lib.hid b9; have L9 := L8.keep b9; have fr8 := L9.rs.frozen 0; have cr8 := L9.rs.cell 0; have HL8 := Lib.hid L9; have HA9 := Lib.hid at9; have HA10 := Lib.hid (HA8.out.keep b9); clear b9 at9 L8 L9 HA8)
                | (go_at_call 12; refine (HT3.out _ _ _ _ _ HA10.out HA9.out).mono ?_; rintro e w10 ⟨rfl, n10, rfl⟩))
              all_goals (have HK := Lib.hid (KeepsOthers.setCell (w9.drewN n10) ⟨w.heap.size + 1, 0, none⟩ (.bool true)); have HX1 := Lib.hid ((HL8.out.drewN n10).set true); refine leave_marks (B := w.heap.size) [D3, D2, D1] _ (by simp; omega) (by simp; omega) (by simp; exact ⟨(MarkAt.keep (A := w9.drewN n10) (show MarkAt w9 D3 from (HG3.out.below HM.out (by have := (Array.getElem?_eq_some_iff.1 HG3.out).1; omega)).below HM9.out (by have := (Array.getElem?_eq_some_iff.1 HG3.out).1; have := HM.out.size; omega)) HK.out), (MarkAt.keep (A := w9.drewN n10) (show MarkAt w9 D2 from (HG2.out.below HM.out (by have := (Array.getElem?_eq_some_iff.1 HG2.out).1; omega)).below HM9.out (by have := (Array.getElem?_eq_some_iff.1 HG2.out).1; have := HM.out.size; omega)) HK.out), (MarkAt.keep (A := w9.drewN n10) (show MarkAt w9 D1 from (HG1.out.below HM.out (by have := (Array.getElem?_eq_some_iff.1 HG1.out).1; omega)).below HM9.out (by have := (Array.getElem?_eq_some_iff.1 HG1.out).1; have := HM.out.size; omega)) HK.out)⟩) (fun W' hb hx => ?_); have c6 := (hx _ _ _ HX1.out.rs).cell 0; exact ⟨.bool true, by simp [results, Try.f3, go_sem, c6], rfl, HX1.out.low.trans hb⟩)
        · clear hms
          by_cases hn0 : n = 0
          · subst hn0
            have T1 := T0.out.1 hwl W HL.out.low
            clear T0 hwl
            have HT := Lib.hid T1
            clear T1
            go_wp2_with (go_at_call 11; refine HT.out.mono ?_; rintro e w8 ⟨a8, c8, rfl, b8⟩; have L8 := HL.out.keep b8; have cw8 := L8.wb.cell 0; have fr8 := L8.rs.frozen 0; have cr8 := L8.rs.cell 0; have HL8 := Lib.hid L8; clear L8; have HM := Lib.hid b8; clear b8)
            all_goals (have HK := Lib.hid (KeepsOthers.setCell w8 ⟨w.heap.size + 1, 0, none⟩ (.bool true)); have HX1 := Lib.hid (HL8.out.set true); refine leave_marks (B := w.heap.size) [D3, D2, D1] _ (by simp; omega) (by simp; omega) (by simp; exact ⟨((HG3.out.below HM.out (by have := (Array.getElem?_eq_some_iff.1 HG3.out).1; omega)).keep HK.out), ((HG2.out.below HM.out (by have := (Array.getElem?_eq_some_iff.1 HG2.out).1; omega)).keep HK.out), ((HG1.out.below HM.out (by have := (Array.getElem?_eq_some_iff.1 HG1.out).1; omega)).keep HK.out)⟩) (fun W' hb hx => ?_); have c6 := (hx _ _ _ HX1.out.rs).cell 0; exact ⟨.bool true, by simp [results, Try.f3, go_sem, c6], rfl, HX1.out.low.trans hb⟩)
          · have T1 := T0.out.2 (by omega)
            clear T0 hwl
            have hnz : ((n : Int) == 0) = false := by simp; omega
            obtain ⟨xs, hxs, T2⟩ := T1
            have HT := Lib.hid (T2.1 W HL.out.low)
            have HT2 := Lib.hid T2.2.1
            have HT3 := Lib.hid T2.2.2
            clear T2
            go_wp2_with (first
              | (go_at_call 11; refine HT.out.mono ?_; rintro e w8 ⟨a8, c8, rfl, at8, b8⟩; have L8 := HL.out.keep b8; have cw8 := L8.wb.cell 0; have HM := Lib.hid b8; have HA8 := Lib.hid at8; clear b8 at8)
              | (go_at_call 13; refine (HT2.out _ L8.low).mono ?_; rintro e w9 ⟨a9, c9, rfl, at9, b9⟩; have HM9 := Lib.hid b9; have L9 := L8.keep b9; have fr8 := L9.rs.frozen 0; have cr8 := L9.rs.cell 0; have HL8 := Lib.hid L9; have HA9 := Lib.hid at9; have HA10 := Lib.hid (HA8.out.keep b9); clear b9 at9 L8 L9 HA8)
              | (go_at_call 12; refine (HT3.out _ _ _ _ _ HA10.out HA9.out).mono ?_; rintro e w10 ⟨rfl, n10, rfl⟩))
            all_goals (have HK := Lib.hid (KeepsOthers.setCell (w9.drewN n10) ⟨w.heap.size + 1, 0, none⟩ (.bool true)); have HX1 := Lib.hid ((HL8.out.drewN n10).set true); refine leave_marks (B := w.heap.size) [D3, D2, D1] _ (by simp; omega) (by simp; omega) (by simp; exact ⟨(MarkAt.keep (A := w9.drewN n10) (show MarkAt w9 D3 from (HG3.out.below HM.out (by have := (Array.getElem?_eq_some_iff.1 HG3.out).1; omega)).below HM9.out (by have := (Array.getElem?_eq_some_iff.1 HG3.out).1; have := HM.out.size; omega)) HK.out), (MarkAt.keep (A := w9.drewN n10) (show MarkAt w9 D2 from (HG2.out.below HM.out (by have := (Array.getElem?_eq_some_iff.1 HG2.out).1; omega)).below HM9.out (by have := (Array.getElem?_eq_some_iff.1 HG2.out).1; have := HM.out.size; omega)) HK.out), (MarkAt.keep (A := w9.drewN n10) (show MarkAt w9 D1 from (HG1.out.below HM.out (by have := (Array.getElem?_eq_some_iff.1 HG1.out).1; omega)).below HM9.out (by have := (Array.getElem?_eq_some_iff.1 HG1.out).1; have := HM.out.size; omega)) HK.out)⟩) (fun W' hb hx => ?_); have c6 := (hx _ _ _ HX1.out.rs).cell 0; exact ⟨.bool true, by simp [results, Try.f3, go_sem, c6], rfl, HX1.out.low.trans hb⟩)
      case stop3 =>
        rintro D3 c pre W hD3 ⟨_, hpre⟩ ⟨⟨hX, hG, hY, hM1, hM2⟩, rfl, h1, h2, h3⟩ hK
        have hM3 : MarkAt W D3 := hK
        clear hK
        have hcnt : pre.length ≤ n ∧ (1 ≤ st → (pre.length : Int) = min st (n : Int)) := ⟨by rw [← hN2]; exact hpre.length_le, fun h => by
          have := hpre.length_le
          rw [hN2] at this
          omega⟩
        clear h1 h2 h3
        generalize pre.length = m at *
        refine wpIn_wide.2 ?_
        have cn := hG.cell 0
        have cw0 := hX.wb.cell 0
        have c5 := hX.st.cell 0
        have fr6 := hX.rs.frozen 0
        have cr6 := hX.rs.cell 0
        have hmle : decide ((n : Int) < (m : Int)) = false := decide_eq_false (by have := hcnt.1; omega)
        have hms := Lib.hid hcnt.2
        clear hcnt
        have T0 := Lib.hid (tail_ok a cap ps v w hbig HC.out HX.out want HW.out)
        have hwl : want.length = n := hN2
        clear hN2
        clear HS4 HSB HC HX
        have HL := Lib.hid hX
        have HG1 := Lib.hid hM1
        have HG2 := Lib.hid hM2
        have HG3 := Lib.hid hM3
        clear hX hM1 hM2 hM3 hG hY X6_1 X6_2 X6_3
        have hmn : m ≤ n := by simpa using hmle
        by_cases h1 : 1 ≤ st
        · have hmm := hms.out h1
          clear hms
          by_cases h2 : st ≤ (n : Int)
          · obtain rfl : st = (m : Int) := by omega
            have hd : decide ((n : Int) < (m : Int)) = false := decide_eq_false (by omega)
            have h11 : decide ((1 : Int) ≤ (m : Int)) = true := decide_eq_true (by omega)
            have hne : ((m : Int) != (m : Int)) = false := by simp
            have hn0 : n ≠ 0 := by omega
            clear hmm h2
            have T1 := T0.out.2 (by omega)
            clear T0 hwl
            have hnz : ((n : Int) == 0) = false := by simp; omega
            obtain ⟨xs, hxs, T2⟩ := T1
            have HT := Lib.hid (T2.1 W HL.out.low)
            have HT2 := Lib.hid T2.2.1
            have HT3 := Lib.hid T2.2.2
            clear T2
            go_wp2_with (first
              | (go_at_call 11; refine HT.out.mono ?_; rintro e w8 ⟨a8, c8, rfl, at8, b8⟩; have L8 := HL.out.keep b8; have cw8 := L8.wb.cell 0; have HM := Lib.hid b8; have HA8 := Lib.hid at8; clear b8 at8)
              | (go_at_call 13; refine (HT2.out _ L8.low).mono ?_; rintro e w9 ⟨a9, c9, rfl, at9, b9⟩; have HM9 := Lib.hid b9; have L9 := L8.keep b9; have fr8 := L9.rs.frozen 0; have cr8 := L9.rs.cell 0; have HL8 := Lib.hid L9; have HA9 := Lib.hid at9; have HA10 := Lib.hid (HA8.out.keep b9); clear b9 at9 L8 L9 HA8)
              | (go_at_call 12; refine (HT3.out _ _ _ _ _ HA10.out HA9.out).mono ?_; rintro e w10 ⟨rfl, n10, rfl⟩))
            all_goals (have HK := Lib.hid (KeepsOthers.setCell (w9.drewN n10) ⟨w.heap.size + 1, 0, none⟩ (.bool true)); have HX1 := Lib.hid ((HL8.out.drewN n10).set true); refine leave_marks (B := w.heap.size) [D3, D2, D1] _ (by simp; omega) (by simp; omega) (by simp; exact ⟨(MarkAt.keep (A := w9.drewN n10) (show MarkAt w9 D3 from (HG3.out.below HM.out (by have := (Array.getElem?_eq_some_iff.1 HG3.out).1; omega)).below HM9.out (by have := (Array.getElem?_eq_some_iff.1 HG3.out).1; have := HM.out.size; omega)) HK.out), (MarkAt.keep (A := w9.drewN n10) (show MarkAt w9 D2 from (HG2.out.below HM.out (by have := (Array.getElem?_eq_some_iff.1 HG2.out).1; omega)).below HM9.out (by have := (Array.getElem?_eq_some_iff.1 HG2.out).1; have := HM.out.size; omega)) HK.out), (MarkAt.keep (A := w9.drewN n10) (show MarkAt w9 D1 from (HG1.out.below HM.out (by have := (Array.getElem?_eq_some_iff.1 HG1.out).1; omega)).below HM9.out (by have := (Array.getElem?_eq_some_iff.1 HG1.out).1; have := HM.out.size; omega)) HK.out)⟩) (fun W' hb hx => ?_); have c6 := (hx _ _ _ HX1.out.rs).cell 0; exact ⟨.bool true, by simp [results, Try.f3, go_sem, c6], rfl, HX1.out.low.trans hb⟩)
          · obtain rfl : m = n := by omega
            have hlt : (m : Int) < st := by omega
            have hne : ((m : Int) != (m : Int)) = false := by simp
            clear hmm h2 hmn
            by_cases hn0 : m = 0
            · subst hn0
              have T1 := T0.out.1 hwl W HL.out.low
              clear T0 hwl
              have HT := Lib.hid T1
              clear T1
              go_wp2_with (go_at_call 11; refine HT.out.mono ?_; rintro e w8 ⟨a8, c8, rfl, b8⟩; have L8 := HL.out.keep b8; have cw8 := L8.wb.cell 0; have fr8 := L8.rs.frozen 0; have cr8 := L8.rs.cell 0; have HL8 := Lib.hid L8; clear L8; have HM := Lib.hid b8; clear b8)
              all_goals (have HK := Lib.hid (KeepsOthers.setCell w8 ⟨w.heap.size + 1, 0, none⟩ (.bool true)); have HX1 := Lib.hid (HL8.out.set true); refine leave_marks (B := w.heap.size) [D3, D2, D1] _ (by simp; omega) (by simp; omega) (by simp; exact ⟨((HG3.out.below HM.out (by have := (Array.getElem?_eq_some_iff.1 HG3.out).1; omega)).keep HK.out), ((HG2.out.below HM.out (by have := (Array.getElem?_eq_some_iff.1 HG2.out).1; omega)).keep HK.out), ((HG1.out.below HM.out (by have := (Array.getElem?_eq_some_iff.1 HG1.out).1; omega)).keep HK.out)⟩) (fun W' hb hx => ?_); have c6 := (hx _ _ _ HX1.out.rs).cell 0; exact ⟨.bool true, by simp [results, Try.f3, go_sem, c6], rfl, HX1.out.low.trans hb⟩)
            · have T1 := T0.out.2 (by omega)
              clear T0 hwl
              have hnz : ((m : Int) == 0) = false := by simp; omega
              obtain ⟨xs, hxs, T2⟩ := T1
              have HT := Lib.hid (T2.1 W HL.out.low)
              have HT2 := Lib.hid T2.2.1
              have HT3 := Lib.hid T2.2.2
              clear T2
              go_wp2_with (first
                | (go_at_call 11; refine HT.out.mono ?_; rintro e w8 ⟨a8, c8, rfl, at8, b8⟩; have L8 := HL.out.keep b8; have cw8 := L8.wb.cell 0; have HM := Lib.hid b8; have HA8 := Lib.hid at8; clear b8 at8)
                | (go_at_call 13; refine (HT2.out _ L8.low).mono ?_; rintro e w9 ⟨a9, c9, rfl, at9, b9⟩; have HM9 := Lib.hid b9; have L9 := L8.keep b9; have fr8 := L9.rs.frozen 0; have cr8 := L9.rs.cell 0; have HL8 := Lib.hid L9; have HA9 := Lib.hid at9; have HA10 := Lib.hid (HA8.out.keep b9); clear b9 at9 L8 L9 HA8)
                | (go_at_call 12; refine (HT3.out _ _ _ _ _ HA10.out HA9.out).mono ?_; rintro e w10 ⟨rfl, n10, rfl⟩))
              all_goals (have HK := Lib.hid (KeepsOthers.setCell (w9.drewN n10) ⟨w.heap.size + 1, 0, none⟩ (.bool true)); have HX1 := Lib.hid ((HL8.out.drewN n10).set true); refine leave_marks (B := w.heap.size) [D3, D2, D1] _ (by simp; omega) (by simp; omega) (by simp; exact ⟨(MarkAt.keep (A := w9.drewN n10) (show MarkAt w9 D3 from (HG3.out.below HM.out (by have := (Array.getElem?_eq_some_iff.1 HG3.out).1; omega)).below HM9.out (by have := (Array.getElem?_eq_some_iff.1 HG3.out).1; have := HM.out.size; omega)) HK.out), (MarkAt.keep (A := w9.drewN n10) (show MarkAt w9 D2 from (HG2.out.below HM.out (by have := (Array.getElem?_eq_some_iff.1 HG2.out).1; omega)).below HM9.out (by have := (Array.getElem?_eq_some_iff.1 HG2.out).1; have := HM.out.size; omega)) HK.out), (MarkAt.keep (A := w9.drewN n10) (show MarkAt w9 D1 from (HG1.out.below HM.out (by have := (Array.getElem?_eq_some_iff.1 HG1.out).1; omega)).below HM9.out (by have := (Array.getElem?_eq_some_iff.1 HG1.out).1; have := HM.out.size; omega)) HK.out)⟩) (fun W' hb hx => ?_); have c6 := (hx _ _ _ HX1.out.rs).cell 0; exact ⟨.bool true, by simp [results, Try.f3, go_sem, c6], rfl, HX1.out.low.trans hb⟩)
        · clear hms
          by_cases hn0 : n = 0
          · subst hn0
            have T1 := T0.out.1 hwl W HL.out.low
            clear T0 hwl
            have HT := Lib.hid T1
            clear T1
            go_wp2_with (go_at_call 11; refine HT.out.mono ?_; rintro e w8 ⟨a8, c8, rfl, b8⟩; have L8 := HL.out.keep b8; have cw8 := L8.wb.cell 0; have fr8 := L8.rs.frozen 0; have cr8 := L8.rs.cell 0; have HL8 := Lib.hid L8; clear L8; have HM := Lib.hid b8; clear b8)
            all_goals (have HK := Lib.hid (KeepsOthers.setCell w8 ⟨w.heap.size + 1, 0, none⟩ (.bool true)); have HX1 := Lib.hid (HL8.out.set true); refine leave_marks (B := w.heap.size) [D3, D2, D1] _ (by simp; omega) (by simp; omega) (by simp; exact ⟨((HG3.out.below HM.out (by have := (Array.getElem?_eq_some_iff.1 HG3.out).1; omega)).keep HK.out), ((HG2.out.below HM.out (by have := (Array.getElem?_eq_some_iff.1 HG2.out).1; omega)).keep HK.out), ((HG1.out.below HM.out (by have := (Array.getElem?_eq_some_iff.1 HG1.out).1; omega)).keep HK.out)⟩) (fun W' hb hx => ?_); have c6 := (hx _ _ _ HX1.out.rs).cell 0; exact ⟨.bool true, by simp [results, Try.f3, go_sem, c6], rfl, HX1.out.low.trans hb⟩)
          · have T1 := T0.out.2 (by omega)
            clear T0 hwl
            have hnz : ((n : Int) == 0) = false := by simp; omega
            obtain ⟨xs, hxs, T2⟩ := T1
            have HT := Lib.hid (T2.1 W HL.out.low)
            have HT2 := Lib.hid T2.2.1
            have HT3 := Lib.hid T2.2.2
            clear T2
            go_wp2_with (first
              | (go_at_call 11; refine HT.out.mono ?_; rintro e w8 ⟨a8, c8, rfl, at8, b8⟩; have L8 := HL.out.keep b8; have cw8 := L8.wb.cell 0; have HM := Lib.hid b8; have HA8 := Lib.hid at8; clear b8 at8)
              | (go_at_call 13; refine (HT2.out _ L8.low).mono ?_; rintro e w9 ⟨a9, c9, rfl, at9, b9⟩; have HM9 := Lib.hid b9; have L9 := L8.keep b9; have fr8 := L9.rs.frozen 0; have cr8 := L9.rs.cell 0; have HL8 := Lib.hid L9; have HA9 := Lib.hid at9; have HA10 := Lib.hid (HA8.out.keep b9); clear b9 at9 L8 L9 HA8)
              | (go_at_call 12; refine (HT3.out _ _ _ _ _ HA10.out HA9.out).mono ?_; rintro e w10 ⟨rfl, n10, rfl⟩))
            all_goals (have HK := Lib.hid (KeepsOthers.setCell (w9.drewN n10) ⟨w.heap.size + 1, 0, none⟩ (.bool true)); have HX1 := Lib.hid ((HL8.out.drewN n10).set true); refine leave_marks (B := w.heap.size) [D3, D2, D1] _ (by simp; omega) (by simp; omega) (by simp; exact ⟨(MarkAt.keep (A := w9.drewN n10) (show MarkAt w9 D3 from (HG3.out.below HM.out (by have := (Array.getElem?_eq_some_iff.1 HG3.out).1; omega)).below HM9.out (by have := (Array.getElem?_eq_some_iff.1 HG3.out).1; have := HM.out.size; omega)) HK.out), (MarkAt.keep (A := w9.drewN n10) (show MarkAt w9 D2 from (HG2.out.below HM.out (by have := (Array.getElem?_eq_some_iff.1 HG2.out).1; omega)).below HM9.out (by have := (Array.getElem?_eq_some_iff.1 HG2.out).1; have := HM.out.size; omega)) HK.out), (MarkAt.keep (A := w9.drewN n10) (show MarkAt w9 D1 from (HG1.out.below HM.out (by have := (Array.getElem?_eq_some_iff.1 HG1.out).1; omega)).below HM9.out (by have := (Array.getElem?_eq_some_iff.1 HG1.out).1; have := HM.out.size; omega)) HK.out)⟩) (fun W' hb hx => ?_); have c6 := (hx _ _ _ HX1.out.rs).cell 0; exact ⟨.bool true, by simp [results, Try.f3, go_sem, c6], rfl, HX1.out.low.trans hb⟩)
    case stop2 =>
      rintro D c pre W hD ⟨_, hpre⟩ h hK
      exact absurd hpre h
  case stop1 =>
    rintro D c pre W hD ⟨_, hpre⟩ h hK
    exact absurd hpre h
theorem cells64 : Try.prog.cellsOf 3 = 1 := by kernel_rfl
theorem bytes64 : Try.prog.bytesOf 3 = 8 := by kernel_rfl
theorem i64_wf {x : Int} (h : (Lit.int .i64 x).wf = true) : I64 x := by
  simp [Lit.wf, IntKind.min, IntKind.max, IntKind.signed, IntKind.bits] at h
  exact h
theorem opened (H : Type) (enc : TypeId × Value → H) (W : World) (base : Nat) (args : Array Value) (ds : List (DataW H)) (p : List MemPlace)
    (hval : ∀ (j : Nat) t v, Try.f3.params[j]? = some t → args[j]? = some v → Value.okWide Try.prog W .any base t v)
    (hA : DataW.TrodAll enc Try.prog W 0 (fun _ => true) true Try.f3.params.toList args.toList ds p)
    (hr : ∀ x ∈ DataW.weightsEach Try.prog Try.f3.params.toList ds, x ≤ reachBytes)
    (hL : laidMetH Try.prog Rows.treeAnswersRow.laid W) :
    Calls Try.prog 3 args W fun e W' => e = .returned (.bool true) ∧ Below W.heap.size W W' := by
  rw [Try.params3] at hA hval hr
  have _ := hL
  obtain ⟨v0, vs0, d0, ds0, p0, q0, hargs, rfl, rfl, h0, r0⟩ := trodAll_cons hA
  obtain ⟨v1, vs1, d1, ds1, p1, q1, rfl, rfl, rfl, h1, r1⟩ := trodAll_cons r0
  obtain ⟨v2, vs2, d2, ds2, p2, q2, rfl, rfl, rfl, h2, r2⟩ := trodAll_cons r1
  obtain ⟨rfl, rfl, rfl⟩ := trodAll_nil r2
  obtain rfl : args = #[v0, v1, v2] := by cases args; simp_all
  obtain ⟨a, xs, cap, rfl, hat, hw, hl, hm, hd⟩ := open_row Try.underlying22 Try.underlying3 cells64 (hval 0 22 v0 rfl rfl) h0
  obtain ⟨u, rfl, rfl, rfl, _⟩ := open_int Try.underlying3 (hval 1 3 v1 rfl rfl) h1
  obtain ⟨v, rfl, rfl, rfl, _⟩ := open_int Try.underlying3 (hval 2 3 v2 rfl rfl) h2
  have hreach := reach_slice (n := xs.length) (cap := cap) Try.underlying22 hd (fun x hx => hr x (by simp [DataW.weightsEach, hx]))
  rw [bytes64] at hreach
  exact walk a cap xs u v W (by omega) hat (fun x hx => i64_wf (hw x hx))
end Go.Proofs.Ytmnhmlbpaebabaa.treeAnswers
