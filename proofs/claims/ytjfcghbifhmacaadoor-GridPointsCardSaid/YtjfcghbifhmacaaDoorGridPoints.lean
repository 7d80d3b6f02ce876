/- GridPoints: the walk, and the step from the law's arguments to it. -/
import Derived.Test.YtjfcghbifhmacaaDoorGridAll
import Derived.Test.YtjfcghbifhmacaaDoorBaseSeq
import Derived.LoopN
namespace Go.Proofs.YtjfcghbifhmacaaDoor.gridPoints
open Go.ChangeShapes Go.WideShapes Go.ChangeAt Go.RowKit Go.Shelf Go.Proofs.YtjfcghbifhmacaaDoor.Bas Go.Proofs.YtjfcghbifhmacaaDoor.FixpM Go.Proofs.YtjfcghbifhmacaaDoor.FixpW Go.Proofs.YtjfcghbifhmacaaDoor.OptW Go.Proofs.YtjfcghbifhmacaaDoor.GridW
attribute [local go_sem] Oper.semAt_some

/-- the variables of a call: the scenario, the result -/
structure Held (w W : World) (s : Int) (r : Bool) : Prop where
  sc : Box W w.heap.size 3 #[.int .i64 s]
  rs : Box W (w.heap.size + 1) 4 #[.bool r]
  low : Below w.heap.size w W
theorem held_new (w : World) (s : Int) : Held w ((w.alloc (.cells #[.int .i64 s] 3)).alloc (.cells #[.bool false] 4)) s false := by
  have b1 := Box.new w 3 #[.int .i64 s]
  have b2 := Box.new (w.alloc (.cells #[.int .i64 s] 3)) 4 #[.bool false]
  simp only [World.size_alloc] at b2
  exact ⟨b1.alloc _, b2, ((Below.refl _ _).alloc (Nat.le_refl _) _).alloc (by simp) _⟩
theorem Held.keep {w A B : World} {s : Int} {r : Bool} (h : Held w A s r) (hb : Below A.heap.size A B) : Held w B s r :=
  ⟨h.sc.keep hb, h.rs.keep hb, h.low.trans (hb.mono h.low.size)⟩
theorem Held.drewN {w A : World} {s : Int} {r : Bool} (h : Held w A s r) (n : Nat) : Held w (A.drewN n) s r := ⟨h.sc.drewN n, h.rs.drewN n, below_drewN h.low n⟩
theorem Held.far {w A : World} {s : Int} {r : Bool} (h : Held w A s r) {g : Nat} (hg : w.heap.size + 2 ≤ g) (v : Value) : Held w (A.setCell ⟨g, 0, none⟩ v) s r :=
  ⟨h.sc.far (by simp; omega) _, h.rs.far (by simp; omega) _, h.low.setCell (p := ⟨g, 0, none⟩) (by simp; omega) _⟩
theorem Held.set {w A : World} {s : Int} {r : Bool} (h : Held w A s r) (b : Bool) : Held w (A.setCell ⟨w.heap.size + 1, 0, none⟩ (.bool b)) s b :=
  ⟨h.sc.far (by simp) _, h.rs.set 0 _, h.low.setCell (p := ⟨w.heap.size + 1, 0, none⟩) (by simp) _⟩
theorem held_own {β : Type} (w : World) (s : Int) (r : Bool) {B : Nat} (hB : w.heap.size ≤ B) : OwnFrom B (fun (_ : β) W => Held w W s r) :=
  fun x A C row hs hg hr => ⟨box_own (β := β) _ _ _ B x A C row hs.sc hg hr, box_own (β := β) _ _ _ B x A C row hs.rs hg hr, ownFrom_below (β := β) (Nat.le_refl _) hB x A C row hs.low hg hr⟩

theorem count_own (g : Nat) (t : TypeId) (B : Nat) : OwnFrom B (fun (pre : List Nat) W => Box W g t #[.int .i64 (pre.length : Nat)]) :=
  fun _ _ _ _ hs hg hr => hs.grown hg (fun r e => (hr r e).2)
theorem axs_own (t : TypeId) (cs : Array Value) (F : Nat → Act) (a' : Act) (B : Nat) : OwnFrom B (fun (_ : Unit) W => ∃ Bx, Box W Bx t cs ∧ a' = F Bx) :=
  fun _ _ _ _ ⟨Bx, h, e⟩ hg hr => ⟨Bx, h.grown hg (fun r e => (hr r e).2), e⟩

theorem not_range {pre : List Nat} {x : Nat} (h : x ≠ pre.length) : ¬ ∃ k, k ≤ 21 ∧ pre ++ [x] = List.range k := by
  rintro ⟨k, _, e⟩
  have hl := congrArg List.length e
  simp at hl
  have := congrArg (fun l => l[pre.length]?) e
  simp [← hl] at this
  exact h this
theorem keeps_drew_set (W : World) (a : Addr) (v : Value) : KeepsOthers W (W.drew.setCell a v) :=
  (show KeepsOthers W W.drew from ⟨Nat.le_refl _, fun _ _ h _ => h⟩).trans (KeepsOthers.setCell _ _ _)

theorem neq_self (a b : Int) (w : World) : (binOp .neq 39 (.agg #[.int .i64 a, .int .i64 b]) (.agg #[.int .i64 a, .int .i64 b])).run Tryd.prog w = .ok (.bool false) w := by
  have := run_neq_ints (P := Tryd.prog) w 39 3 2 .i64 Tryd.underlying39 Tryd.underlying3 (fun w => by kernel_rfl) [a, b] [a, b] rfl rfl
  rw [beq_self_eq_true] at this
  exact this

set_option maxHeartbeats 4000000 in
set_option maxRecDepth 100000 in
theorem walk (p v s : Int) (w : World) (ht : Tab w) :
    Calls Tryd.prog 5 #[.int .i64 p, .int .i64 v, .int .i64 s] w fun e w' => e = .returned (.bool true) ∧ Below w.heap.size w w' := by
  have HT := Lib.hid ht
  have D0 := Lib.hid (fun W (h : Tab W) => wakes_calls W h)
  have hl := Lib.hid ht.lt
  have C1 := fun W (h : Tab W) => point_calls p v s W h
  have C2 := fun W => rpoint_calls p v s W
  generalize pointF p v s = q at C1 C2
  obtain ⟨q1, q2, q3⟩ := q
  have D1 := Lib.hid C1
  have D2 := Lib.hid C2
  clear ht C1 C2
  refine (callsIn_wide (n := 9)).1 (callsIn_of_wp_marks Tryd.func5 rfl trivial ?_ rfl)
  refine wpIn_wide.2 ?_
  simp only [Tryd.ntmps5, List.size_toArray, List.length_cons, List.length_nil, Nat.reduceAdd, Nat.reduceSub, Array.replicate_succ, Array.replicate_zero, List.push_toArray, List.append_toArray, List.nil_append, List.cons_append]
  go_upto_region 1 with fail
  have X := held_new w s
  generalize (w.alloc (.cells #[.int .i64 s] 3)).alloc (.cells #[.bool false] 4) = w0 at X ⊢
  go_wp2_with (first
    | (go_at_call 8; refine (D0.out _ (HT.out.keep X.low)).mono ?_; rintro e w1 ⟨rfl, b1⟩; have X1 := X.keep b1; have e5 := X1.sc.cell 0; clear X b1 D0)
    | (go_at_call 13; refine (D1.out _ (HT.out.keep X1.low)).mono ?_; rintro e w' ⟨rfl, n1, rfl⟩; have X2 := X1.drewN n1; clear e5 D1; have e5 := X2.sc.cell 0; clear X1)
    | (go_at_call 14; refine (D2.out _).mono ?_; rintro e w3 ⟨rfl, b3⟩; have X3 := X2.keep b3; clear e5 D2 X2 b3))
  refine wp_loop_rounds 3 ?_
  rw [rounds_succ]
  go_wp2_with (first | (go_at_call 15; refine (all_calls _).mono ?_; rintro e w' ⟨rfl, rfl⟩))
  have hB3 := X3.low
  have hz3 := X3.low.size
  have X4 : Held w (w3.alloc (.cells #[.int .i64 0] 3)) s false := X3.keep ((Below.refl _ _).alloc (Nat.le_refl _) _)
  have G4 : Box (w3.alloc (.cells #[.int .i64 0] 3)) w3.heap.size 3 #[.int .i64 (0 : Nat)] := Box.new _ _ _
  have hg4 : w.heap.size + 2 ≤ w3.heap.size := X3.rs.lt
  have hz4 : w3.heap.size < (w3.alloc (.cells #[.int .i64 0] 3)).heap.size := by simp
  generalize w3.heap.size = g at *
  generalize w3.alloc (.cells #[.int .i64 0] 3) = w4 at *
  have T4 := HT.out.keep X4.low
  have hz5 := X4.low.size
  refine wpIn_wide.1 (wpIn_rangeFunc_ownH (n := 9) (encs := encS) rfl (by decide) (gf := 23) (lb := #[]) rfl trivial (enters_of Tryd.func23 (by kernel_rfl) rfl)
    (all_stops 8 (by decide) w.heap.size hl.out.1 hl.out.2 w4 T4 (by have := hl.out.1; omega) (by have := hl.out.2; omega)) belowK_t (belowK_b hz5) (Below.refl _ _) (fun _ => rfl)
    (fun pre W => Held w W s false ∧ Box W g 3 #[.int .i64 (pre.length : Nat)])
    (fun _ pre _ => ¬ ∃ k, k ≤ 21 ∧ pre = List.range k)
    ((held_own w s false hz5).and (count_own g _ _)) (fun c => own_pure _ _) ⟨X4, G4⟩
    (fun x a' W => ∃ Bx, Box W Bx 39 #[.int .i64 (shiftOf x), .int .i64 (volOf x)] ∧ a' = { tmps := #[Value.int IntKind.i64 p, Value.int IntKind.i64 v, Value.int IntKind.i64 s, undef, undef, Value.pointer (some ⟨w.heap.size, 0, none⟩), Value.pointer (some ⟨w.heap.size + 1, 0, none⟩), Value.int IntKind.i64 q1, Value.int IntKind.i64 q2, Value.int IntKind.i64 q3, Value.int IntKind.i64 q1, Value.int IntKind.i64 q2, Value.int IntKind.i64 q3, Value.int IntKind.i64 0, Value.pointer (some ⟨g, 0, none⟩), Value.int IntKind.i64 (x : Int), Value.pointer (some ⟨Bx, 0, none⟩), undef, Value.bool true, Value.bool false, Value.tuple #[Value.int IntKind.i64 q1, Value.int IntKind.i64 q2, Value.int IntKind.i64 q3], Value.int IntKind.i64 p, Value.int IntKind.i64 v, Value.int IntKind.i64 s, Value.tuple #[Value.int IntKind.i64 q1, Value.int IntKind.i64 q2, Value.int IntKind.i64 q3], Value.int IntKind.i64 q1, Value.int IntKind.i64 q2, Value.int IntKind.i64 q3, Value.tuple #[Value.int IntKind.i64 q1, Value.int IntKind.i64 q2, Value.int IntKind.i64 q3], Value.int IntKind.i64 p, Value.int IntKind.i64 v, Value.int IntKind.i64 s, Value.tuple #[Value.int IntKind.i64 q1, Value.int IntKind.i64 q2, Value.int IntKind.i64 q3], Value.int IntKind.i64 q1, Value.int IntKind.i64 q2, Value.int IntKind.i64 q3, Value.int IntKind.i64 q1, Value.int IntKind.i64 q1, Value.bool false, Value.bool false, Value.int IntKind.i64 q2, Value.int IntKind.i64 q2, Value.bool false, Value.bool false, Value.bool false, Value.int IntKind.i64 q3, Value.int IntKind.i64 q3, Value.bool false, Value.bool false, Value.int IntKind.i64 0, Value.bool true, undef, undef, Value.func (Fn.func 23) #[] #[], Value.int IntKind.i64 (x : Int), Value.agg #[Value.int IntKind.i64 (shiftOf x), Value.int IntKind.i64 (volOf x)], undef, undef, undef, undef, undef, undef, undef, undef, undef, undef, undef, undef, undef, undef, undef, undef, undef, undef, undef, undef, undef, undef, undef, undef, undef, undef, undef, undef, undef, undef], defers := [] }) (fun x a' => axs_own _ _ _ _ _) ?assign1 ?body1 ?done1 ?stop1)
  case assign1 =>
    rintro l pre x W K ⟨hX, hG⟩ hK
    unfold encS
    gi_wp2
    exact hK _ _ ((KeepsOthers.alloc W _).from _) ((Below.refl _ W).alloc hX.low.size _) ⟨hX.keep ((Below.refl _ _).alloc (Nat.le_refl _) _), hG.alloc _⟩ ⟨W.heap.size, Box.new W _ _, rfl⟩
  case body1 =>
    rintro l pre x a' W hl' ⟨r, hr⟩ ⟨hX, hG⟩ ⟨Bx, hBx, rfl⟩ hlen
    have hmx : Tryd.prog.follows .mixedOrders = true := by kernel_rfl
    have c0 := hBx.cell 0
    have c1 := hBx.cell 1
    have cn := hG.cell 0
    have fn := hG.frozen 0
    have fr6 := hX.rs.frozen 0
    have cr6 := hX.rs.cell 0
    by_cases hx : x = pre.length
    · have hge : ¬ (21 ≤ (x : Int)) := by omega
      have hgeb : decide (21 ≤ (x : Int)) = false := decide_eq_false hge
      have hneq := neq_self (shiftOf x) (volOf x)
      have hne : ((x : Int) != (pre.length : Int)) = false := by rw [hx]; simp
      have HX := Lib.hid hx
      clear hx
      gi_wp2
      gi_region_with_o (refine ⟨trivial, ?_⟩; gi_at_call 16; refine (CallsIn.inRound l (callsIn_wide.2 (shift_calls x _ (by omega)))).mono ?_; rintro e w2 ⟨rfl, b2⟩; have y2 := Box.keep (w := W.drew) hBx b2; have d0 := y2.cell 0; have d1 := y2.cell 1)
      all_goals
        have b3 : Below W.heap.size W w2 := ⟨b2.os, b2.tape, b2.output, b2.size, b2.block⟩
        have X2 := hX.keep b3
        have G2 := hG.keep b3
        clear b2 c0 c1 cn fn fr6 cr6 d0 d1 y2 hneq hne
        have cn := G2.cell 0
        have fn := G2.frozen 0
        have hs3 : Below w.heap.size W w2 := b3.mono hX.low.size
        have hk3 := (keeps_below b3).trans (KeepsOthers.setCell w2 ⟨g, 0, none⟩ (.int .i64 ((pre.length : Int) + 1)))
        have G3 := G2.set 0 (.int .i64 ((pre.length : Int) + 1))
        have X3 := X2.far hg4 (.int .i64 ((pre.length : Int) + 1))
        have B3 := hs3.setCell (p := ⟨g, 0, none⟩) (show w.heap.size ≤ g by omega) (.int .i64 ((pre.length : Int) + 1))
        have HK3 := Lib.hid hk3
        have HX3 := Lib.hid X3
        have hg43 := Lib.hid G3
        have HB3 := Lib.hid B3
        clear hk3 X3 G3 B3 hs3 b3
        gi_wp2
        exact ⟨HK3.out.from _, HB3.out, HX3.out, by have := hg43.out; simpa using this⟩
    · have hne : ((x : Int) != (pre.length : Int)) = true := by simp; omega
      have HX := Lib.hid hx
      clear hx
      gi_wp2
      gi_region_with_o (refine ⟨trivial, ?_⟩)
      all_goals
        gi_wp2
        exact ⟨(keeps_drew_set W _ _).from _, not_range HX.out⟩
  case done1 =>
    rintro D1 ys W hD rfl ⟨hX, hG⟩ hK
    have hG0 : Box W g 3 #[.int .i64 ((21 : Nat) : Int)] := by simpa using hG
    have c14 := hG0.cell 0
    clear hG
    go_wp2_with fail
    rw [rounds_succ]
    go_wp2_with (first | (go_at_call 15; refine (all_calls _).mono ?_; rintro e w' ⟨rfl, rfl⟩))
    have hD1w : w.heap.size ≤ D1 := by omega
    clear c14 hG0 X4 G4 T4 hz5 hz4 hg4 hz3 hB3 X3
    have X6 : Held w (W.alloc (.cells #[.int .i64 0] 3)) s false := hX.keep ((Below.refl _ _).alloc (Nat.le_refl _) _)
    have G6 : Box (W.alloc (.cells #[.int .i64 0] 3)) W.heap.size 3 #[.int .i64 (0 : Nat)] := Box.new _ _ _
    have hg6 : w.heap.size + 2 ≤ W.heap.size := hX.rs.lt
    have M6 : MarkAt (W.alloc (.cells #[.int .i64 0] 3)) D1 := MarkAt.keep (show MarkAt W D1 from hK) (KeepsOthers.alloc W _)
    have hD1 : D1 < (W.alloc (.cells #[.int .i64 0] 3)).heap.size := (Array.getElem?_eq_some_iff.1 M6).1
    clear hK hX
    generalize W.heap.size = g2 at *
    generalize W.alloc (.cells #[.int .i64 0] 3) = w6 at *
    have T6 := HT.out.keep X6.low
    have hz6 := X6.low.size
    refine wpIn_wide.1 (wpIn_rangeFunc_ownH (n := 9) (encs := encS) rfl (by decide) (gf := 23) (lb := #[]) rfl trivial (enters_of Tryd.func23 (by kernel_rfl) rfl)
      (all_stops 8 (by decide) w.heap.size hl.out.1 hl.out.2 w6 T6 (by have := hl.out.1; omega) (by have := hl.out.2; omega)) belowK_t (belowK_b hz6) (Below.refl _ _) (fun _ => rfl)
      (fun pre W => Held w W s false ∧ Box W g2 3 #[.int .i64 (pre.length : Nat)] ∧ MarkAt W D1)
      (fun _ pre _ => ¬ ∃ k, k ≤ 21 ∧ pre = List.range k)
      ((held_own w s false hz6).and ((count_own g2 _ _).and (mark_own D1 hD1))) (fun c => own_pure _ _) ⟨X6, G6, M6⟩
      (fun x a' W => ∃ Bx, Box W Bx 39 #[.int .i64 (shiftOf x), .int .i64 (volOf x)] ∧ a' = { tmps := #[Value.int IntKind.i64 p, Value.int IntKind.i64 v, Value.int IntKind.i64 s, undef, undef, Value.pointer (some ⟨w.heap.size, 0, none⟩), Value.pointer (some ⟨w.heap.size + 1, 0, none⟩), Value.int IntKind.i64 q1, Value.int IntKind.i64 q2, Value.int IntKind.i64 q3, Value.int IntKind.i64 q1, Value.int IntKind.i64 q2, Value.int IntKind.i64 q3, Value.int IntKind.i64 1, Value.pointer (some ⟨g2, 0, none⟩), Value.int IntKind.i64 (x : Int), Value.pointer (some ⟨Bx, 0, none⟩), undef, Value.bool true, Value.bool false, Value.tuple #[Value.int IntKind.i64 q1, Value.int IntKind.i64 q2, Value.int IntKind.i64 q3], Value.int IntKind.i64 p, Value.int IntKind.i64 v, Value.int IntKind.i64 s, Value.tuple #[Value.int IntKind.i64 q1, Value.int IntKind.i64 q2, Value.int IntKind.i64 q3], Value.int IntKind.i64 q1, Value.int IntKind.i64 q2, Value.int IntKind.i64 q3, Value.tuple #[Value.int IntKind.i64 q1, Value.int IntKind.i64 q2, Value.int IntKind.i64 q3], Value.int IntKind.i64 p, Value.int IntKind.i64 v, Value.int IntKind.i64 s, Value.tuple #[Value.int IntKind.i64 q1, Value.int IntKind.i64 q2, Value.int IntKind.i64 q3], Value.int IntKind.i64 q1, Value.int IntKind.i64 q2, Value.int IntKind.i64 q3, Value.int IntKind.i64 q1, Value.int IntKind.i64 q1, Value.bool false, Value.bool false, Value.int IntKind.i64 q2, Value.int IntKind.i64 q2, Value.bool false, Value.bool false, Value.bool false, Value.int IntKind.i64 q3, Value.int IntKind.i64 q3, Value.bool false, Value.bool false, Value.int IntKind.i64 1, Value.bool true, Value.int IntKind.i64 0, Value.int IntKind.i64 1, Value.func (Fn.func 23) #[] #[], Value.int IntKind.i64 (x : Int), Value.agg #[Value.int IntKind.i64 (shiftOf x), Value.int IntKind.i64 (volOf x)], undef, undef, undef, undef, undef, undef, undef, undef, undef, undef, undef, undef, undef, undef, undef, Value.int IntKind.i64 21, Value.bool false, undef, undef, undef, undef, undef, undef, undef, undef, undef, undef, undef, undef, undef], defers := [] }) (fun x a' => axs_own _ _ _ _ _) ?assign2 ?body2 ?done2 ?stop2)
    case assign2 =>
      rintro l pre x W K ⟨hX, hG, hM⟩ hK
      unfold encS
      gi_wp2
      exact hK _ _ ((KeepsOthers.alloc W _).from _) ((Below.refl _ W).alloc hX.low.size _) ⟨hX.keep ((Below.refl _ _).alloc (Nat.le_refl _) _), hG.alloc _, MarkAt.keep hM (KeepsOthers.alloc W _)⟩ ⟨W.heap.size, Box.new W _ _, rfl⟩
    case body2 =>
      rintro l pre x a' W hl' ⟨r, hr⟩ ⟨hX, hG, hM⟩ ⟨Bx, hBx, rfl⟩ hlen
      have hmx : Tryd.prog.follows .mixedOrders = true := by kernel_rfl
      have c0 := hBx.cell 0
      have c1 := hBx.cell 1
      have cn := hG.cell 0
      have fn := hG.frozen 0
      have fr6 := hX.rs.frozen 0
      have cr6 := hX.rs.cell 0
      by_cases hx : x = pre.length
      · have hge : ¬ (21 ≤ (x : Int)) := by omega
        have hgeb : decide (21 ≤ (x : Int)) = false := decide_eq_false hge
        have hneq := neq_self (shiftOf x) (volOf x)
        have hne : ((x : Int) != (pre.length : Int)) = false := by rw [hx]; simp
        have HX := Lib.hid hx
        clear hx
        gi_wp2
        gi_region_with_o (refine ⟨trivial, ?_⟩; gi_at_call 16; refine (CallsIn.inRound l (callsIn_wide.2 (shift_calls x _ (by omega)))).mono ?_; rintro e w2 ⟨rfl, b2⟩; have y2 := Box.keep (w := W.drew) hBx b2; have d0 := y2.cell 0; have d1 := y2.cell 1)
        all_goals
          have b3 : Below W.heap.size W w2 := ⟨b2.os, b2.tape, b2.output, b2.size, b2.block⟩
          have X2 := hX.keep b3
          have G2 := hG.keep b3
          clear b2 c0 c1 cn fn fr6 cr6 d0 d1 y2 hneq hne
          have cn := G2.cell 0
          have fn := G2.frozen 0
          have hs3 : Below w.heap.size W w2 := b3.mono hX.low.size
          have hk3 := (keeps_below b3).trans (KeepsOthers.setCell w2 ⟨g2, 0, none⟩ (.int .i64 ((pre.length : Int) + 1)))
          have G3 := G2.set 0 (.int .i64 ((pre.length : Int) + 1))
          have X3 := X2.far hg6 (.int .i64 ((pre.length : Int) + 1))
          have B3 := hs3.setCell (p := ⟨g2, 0, none⟩) (show w.heap.size ≤ g2 by omega) (.int .i64 ((pre.length : Int) + 1))
          have HK3 := Lib.hid hk3
          have HX3 := Lib.hid X3
          have hg63 := Lib.hid G3
          have HB3 := Lib.hid B3
          clear hk3 X3 G3 B3 hs3 b3
          gi_wp2
          exact ⟨HK3.out.from _, HB3.out, HX3.out, by have := hg63.out; simpa using this, MarkAt.keep hM HK3.out⟩
      · have hne : ((x : Int) != (pre.length : Int)) = true := by simp; omega
        have HX := Lib.hid hx
        clear hx
        gi_wp2
        gi_region_with_o (refine ⟨trivial, ?_⟩)
        all_goals
          gi_wp2
          exact ⟨(keeps_drew_set W _ _).from _, not_range HX.out⟩
    case done2 =>
      rintro D2 ys W hD rfl ⟨hX, hG, hM⟩ hK
      have hG0 : Box W g2 3 #[.int .i64 ((21 : Nat) : Int)] := by simpa using hG
      have c14 := hG0.cell 0
      clear hG
      go_wp2_with fail
      rw [rounds_succ]
      go_wp2_with (first | (go_at_call 15; refine (all_calls _).mono ?_; rintro e w' ⟨rfl, rfl⟩))
      have hD2w : w.heap.size ≤ D2 := by omega
      have hne : D2 ≠ D1 := by omega
      clear c14 hG0 X6 G6 M6 T6 hz6
      have X8 : Held w (W.alloc (.cells #[.int .i64 0] 3)) s false := hX.keep ((Below.refl _ _).alloc (Nat.le_refl _) _)
      have G8 : Box (W.alloc (.cells #[.int .i64 0] 3)) W.heap.size 3 #[.int .i64 (0 : Nat)] := Box.new _ _ _
      have hg8 : w.heap.size + 2 ≤ W.heap.size := hX.rs.lt
      have M1 : MarkAt (W.alloc (.cells #[.int .i64 0] 3)) D1 := hM.keep (KeepsOthers.alloc W _)
      have M2 : MarkAt (W.alloc (.cells #[.int .i64 0] 3)) D2 := MarkAt.keep (show MarkAt W D2 from hK) (KeepsOthers.alloc W _)
      have hD18 : D1 < (W.alloc (.cells #[.int .i64 0] 3)).heap.size := (Array.getElem?_eq_some_iff.1 M1).1
      have hD28 : D2 < (W.alloc (.cells #[.int .i64 0] 3)).heap.size := (Array.getElem?_eq_some_iff.1 M2).1
      clear hK hX hM hD
      generalize W.heap.size = g3 at *
      generalize W.alloc (.cells #[.int .i64 0] 3) = w8 at *
      have T8 := HT.out.keep X8.low
      have hz8 := X8.low.size
      refine wpIn_wide.1 (wpIn_rangeFunc_ownF (n := 9) (encs := encS) rfl (by decide) (gf := 23) (lb := #[]) rfl trivial (enters_of Tryd.func23 (by kernel_rfl) rfl)
        (all_stops 8 (by decide) w.heap.size hl.out.1 hl.out.2 w8 T8 (by have := hl.out.1; omega) (by have := hl.out.2; omega)) belowK_t (belowK_b hz8) (Below.refl _ _) (fun _ => rfl)
        (fun pre W => (Held w W s false ∧ Box W g3 3 #[.int .i64 (pre.length : Nat)] ∧ MarkAt W D1 ∧ MarkAt W D2) ∧ (pre = [] ∨ (pre.length : Int) < s))
        (fun c pre W => (Held w W s false ∧ Box W g3 3 #[.int .i64 (pre.length : Nat)] ∧ MarkAt W D1 ∧ MarkAt W D2) ∧ (c = .exit 4 ∧ s ≤ (pre.length : Int) ∧ 1 ≤ pre.length ∧ (pre.length = 1 ∨ (pre.length : Int) - 1 < s)))
        (((held_own w s false hz8).and ((count_own g3 _ _).and ((mark_own D1 hD18).and (mark_own D2 hD28)))).and (own_pure (fun (pre : List Nat) => pre = [] ∨ (pre.length : Int) < s) _))
        (fun c => ((held_own w s false hz8).and ((count_own g3 _ _).and ((mark_own D1 hD18).and (mark_own D2 hD28)))).and (own_pure (fun (pre : List Nat) => c = .exit 4 ∧ s ≤ (pre.length : Int) ∧ 1 ≤ pre.length ∧ (pre.length = 1 ∨ (pre.length : Int) - 1 < s)) _))
        ⟨⟨X8, G8, M1, M2⟩, .inl rfl⟩
        _ (by intro l x W K hK; unfold encS; gi_wp2; exact hK) ?body3 ?done3 ?stop3)
      case body3 =>
        rintro l pre x W ⟨⟨hX, hG, hM1, hM2⟩, hs⟩ hlen
        have cn := hG.cell 0
        have fn := hG.frozen 0
        have c5 := hX.sc.cell 0
        have HK3 := Lib.hid (KeepsOthers.setCell W ⟨g3, 0, none⟩ (.int .i64 ((pre.length : Int) + 1)))
        have HG3 := Lib.hid (hG.set 0 (.int .i64 ((pre.length : Int) + 1)))
        have HX3 := Lib.hid (hX.far hg8 (.int .i64 ((pre.length : Int) + 1)))
        have HB3 := Lib.hid ((Below.refl w.heap.size W).setCell (p := ⟨g3, 0, none⟩) (show w.heap.size ≤ g3 by omega) (.int .i64 ((pre.length : Int) + 1)))
        have HS := Lib.hid hs
        clear hs
        by_cases hge : s ≤ (pre.length : Int) + 1
        · have hd : decide (s ≤ (pre.length : Int) + 1) = true := decide_eq_true hge
          gi_wp2
          exact ⟨HK3.out, ⟨HX3.out, by have := HG3.out; simpa using this, hM1.keep HK3.out, hM2.keep HK3.out⟩, rfl, by simp; omega, by simp, HS.out.elim (fun h => .inl (by rw [h]; rfl)) (fun h => .inr (by simp; omega))⟩
        · gi_wp2
          exact ⟨HK3.out, HB3.out, ⟨HX3.out, by have := HG3.out; simpa using this, hM1.keep HK3.out, hM2.keep HK3.out⟩, .inr (by simp; omega)⟩
      case done3 =>
        rintro D3 ys W hD3 rfl ⟨⟨hX, hG, hM1, hM2⟩, hs⟩ hK
        have cn : W.cell? ⟨g3, 0, none⟩ = some (.int .i64 (21 : Int)) := by have := hG.cell 0; simpa using this
        have c5 := hX.sc.cell 0
        have fr6 := hX.rs.frozen 0
        have cr6 := hX.rs.cell 0
        have hK3 : MarkAt W D3 := hK
        have hmm : ((21 : Int) == min (max s 1) 21) = true := by simp; rcases hs with h | h <;> simp at h <;> omega
        have HX1 := Lib.hid (hX.set true)
        have HM := Lib.hid (KeepsOthers.setCell W ⟨w.heap.size + 1, 0, none⟩ (.bool true))
        skip
        go_wp2_with fail
        refine leave_marks (B := w.heap.size) [D3, D2, D1] _ (by simp; omega) (by simp; omega) (by simp; exact ⟨hK3.keep HM.out, hM2.keep HM.out, hM1.keep HM.out⟩) (fun W' hb hx => ?_)
        have c6 := (hx _ _ _ HX1.out.rs).cell 0
        exact ⟨.bool true, by simp [results, Tryd.f5, go_sem, c6], rfl, HX1.out.low.trans hb⟩
      case stop3 =>
        rintro D3 c pre W hD3 ⟨k, hk, rfl⟩ ⟨⟨hX, hG, hM1, hM2⟩, rfl, h1, h2, h3⟩ hK
        have cn : W.cell? ⟨g3, 0, none⟩ = some (.int .i64 (k : Int)) := by have := hG.cell 0; simpa using this
        have c5 := hX.sc.cell 0
        have fr6 := hX.rs.frozen 0
        have cr6 := hX.rs.cell 0
        have hK3 : MarkAt W D3 := hK
        have hmm : ((k : Int) == min (max s 1) 21) = true := by simp at h1 h2 h3; simp; omega
        have HX1 := Lib.hid (hX.set true)
        have HM := Lib.hid (KeepsOthers.setCell W ⟨w.heap.size + 1, 0, none⟩ (.bool true))
        refine wpIn_wide.2 ?_
        go_wp2_with fail
        refine leave_marks (B := w.heap.size) [D3, D2, D1] _ (by simp; omega) (by simp; omega) (by simp; exact ⟨hK3.keep HM.out, hM2.keep HM.out, hM1.keep HM.out⟩) (fun W' hb hx => ?_)
        have c6 := (hx _ _ _ HX1.out.rs).cell 0
        exact ⟨.bool true, by simp [results, Tryd.f5, go_sem, c6], rfl, HX1.out.low.trans hb⟩
    case stop2 =>
      rintro D c pre W hD hpre h hK
      exact absurd hpre h
  case stop1 =>
    rintro D c pre W hD hpre h hK
    exact absurd hpre h

theorem opened (H : Type) (enc : TypeId × Value → H) (W : World) (base : Nat) (args : Array Value) (ds : List (DataW H)) (p : List MemPlace)
    (hval : ∀ (j : Nat) t v, Tryd.f5.params[j]? = some t → args[j]? = some v → Value.okWide Tryd.prog W .any base t v)
    (hA : DataW.TrodAll enc Tryd.prog W 0 (fun _ => true) true Tryd.f5.params.toList args.toList ds p)
    (hr : ∀ x ∈ DataW.weightsEach Tryd.prog Tryd.f5.params.toList ds, x ≤ reachBytes)
    (hL : laidMetH Tryd.prog Rows.gridPointsRow.laid W) :
    Calls Tryd.prog 5 args W fun e W' => e = .returned (.bool true) ∧ Below W.heap.size W W' := by
  rw [Tryd.params5] at hA hval hr
  obtain ⟨v0, vs0, d0, ds0, p0, q0, hargs, rfl, rfl, h0, r0⟩ := trodAll_cons hA
  obtain ⟨v1, vs1, d1, ds1, p1, q1, rfl, rfl, rfl, h1, r1⟩ := trodAll_cons r0
  obtain ⟨v2, vs2, d2, ds2, p2, q2, rfl, rfl, rfl, h2, r2⟩ := trodAll_cons r1
  obtain ⟨rfl, rfl, rfl⟩ := trodAll_nil r2
  obtain rfl : args = #[v0, v1, v2] := by cases args; simp_all
  obtain ⟨pr, rfl, rfl, rfl, _⟩ := open_int Tryd.underlying3 (hval 0 3 v0 rfl rfl) h0
  obtain ⟨vo, rfl, rfl, rfl, _⟩ := open_int Tryd.underlying3 (hval 1 3 v1 rfl rfl) h1
  obtain ⟨sc, rfl, rfl, rfl, _⟩ := open_int Tryd.underlying3 (hval 2 3 v2 rfl rfl) h2
  exact walk pr vo sc W (tab_of_laid hL)
end Go.Proofs.YtjfcghbifhmacaaDoor.gridPoints
