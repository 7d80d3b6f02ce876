/- Above: what it goes over; Depth. -/
import Derived.Test.YtmnhmlbpaebabaaTreeBelow
namespace Go.Proofs.Ytmnhmlbpaebabaa.TreeW
open Go.RowKit Go.Shelf Go.Proofs.Ytmnhmlbpaebabaa.Bas Go.Proofs.Ytmnhmlbpaebabaa.TreeM
attribute [local go_sem] Oper.semAt_some

def encN (x : Nat) : Array Value := #[.int .i64 (x : Int)]
/-- the blocks from lo up to hi stay -/
def Span (lo hi : Nat) (A B : World) : Prop := ∀ g, lo ≤ g → g < hi → B.heap[g]? = A.heap[g]?
theorem Span.refl (lo hi : Nat) (A : World) : Span lo hi A A := fun _ _ _ => rfl
theorem Span.trans {lo hi : Nat} {A B C : World} (h : Span lo hi A B) (k : Span lo hi B C) : Span lo hi A C := fun g h1 h2 => (k g h1 h2).trans (h g h1 h2)
theorem Span.put {lo hi : Nat} {w : World} (hn : hi ≤ w.heap.size) (W : World) (l : Nat) (o o' : Obj) (hl : w.heap.size ≤ l) (_h : W.heap[l]? = some o) (_ : o.isCells = false) (_ : o.isWalk = false) : Span lo hi W (W.putObj l o') :=
  fun _ _ hg => World.putObj_heap_other (by omega)
theorem Span.below {lo hi B : Nat} {W W' : World} (h : Below B W W') (hB : hi ≤ B) : Span lo hi W W' := fun g _ hg => h.block g (by omega)
theorem Span.set {lo hi : Nat} (W : World) (p : Addr) (u : Value) (hp : p.block < lo ∨ hi ≤ p.block) : Span lo hi W (W.setCell p u) := fun g _ _ => Below.heap_setCell W p u g (by omega)
theorem Span.alloc {lo hi : Nat} (W : World) (o : Obj) (h : hi ≤ W.heap.size) : Span lo hi W (W.alloc o) := fun g _ hg => Below.heap_alloc W o g (by omega)

/-- what an iterator of Above holds: a copy of the list, and the account -/
structure Kept (W : World) (lo hi : Nat) (go gv : Nat) (s : Value) (ps : List Int) (v : Int) : Prop where
  own : Box W go 22 #[s]
  vv : Box W gv 3 #[.int .i64 v]
  row : W.ownsRow lo 3 1 s ps.length (i64s ps)
  l1 : lo ≤ go
  l2 : lo ≤ gv
  h1 : go < hi
  h2 : gv < hi
  h3 : ∀ k, s.ownBlock = some k → k < hi
theorem Kept.span {A B : World} {lo hi go gv : Nat} {s : Value} {ps : List Int} {v : Int} (h : Kept A lo hi go gv s ps v) (hs : Span lo hi A B) : Kept B lo hi go gv s ps v := by
  refine ⟨(hs go h.l1 h.h1).trans h.own, (hs gv h.l2 h.h2).trans h.vv, ⟨h.row.1, ?_⟩, h.l1, h.l2, h.h1, h.h2, h.h3⟩
  rcases h.row.2 with hn | ⟨g, cap, cur, rfl, hbg, hg, r⟩
  · exact .inl hn
  · exact .inr ⟨g, cap, cur, rfl, hbg, (hs g hbg (h.h3 g rfl)).trans hg, r⟩

/-- Above's answer -/
def seqF (go gv : Nat) : Value := .func (.func 19) #[] #[.pointer (some ⟨go, 0, none⟩), .pointer (some ⟨gv, 0, none⟩)]
set_option maxHeartbeats 1000000 in
theorem above_calls (a : Option Addr) (cap : Nat) (ps : List Int) (v : Int) (w : World) (hbig : ps.length * 8 ≤ 140737488351232) (hc : At w a (i64s ps)) :
    Calls Try.prog 9 #[.slice a ps.length cap, .int .i64 v] w fun e w' => ∃ go gv s, e = .returned (seqF go gv) ∧ Kept w' w.heap.size w'.heap.size go gv s ps v ∧ Below w.heap.size w w' := by
  have B0 := (Below.refl w.heap.size w).alloc (Nat.le_refl _) (.cells #[.int .i64 v] 3)
  have C := Lib.hid (clone_calls a cap ps _ hbig (hc.keep B0))
  clear hc
  go_enter Try.func9, Try.ntmps9
  have X0 := Box.new w 3 #[.int .i64 v]
  have z0 : w.heap.size < (w.alloc (.cells #[.int .i64 v] 3)).heap.size := by simp
  go_wp2_with (first | (go_at_call 18; refine C.out.mono ?_; rintro e w2 ⟨s, rfl, own, hB⟩; obtain ⟨ao, co, rfl, _, _, _, _, _⟩ := at_of_owns own))
  go_ret
  have hz := hB.size
  have X1 := X0.keep hB
  generalize (w.alloc (.cells #[.int .i64 v] 3)) = w1 at *
  refine ⟨w2.heap.size, w.heap.size, .slice ao ps.length co, rfl, ⟨Box.new _ _ _, X1.alloc _, own_mono (own.alloc _) (by omega), by omega, Nat.le_refl _, by simp, by simp; omega, ?_⟩, (B0.trans (hB.mono (by omega))).alloc (by omega) _⟩
  intro k hk
  have := (own.lt k hk).2
  simp; omega

theorem Kept.below {A B : World} {lo hi go gv n : Nat} {s : Value} {ps : List Int} {v : Int} (h : Kept A lo hi go gv s ps v) (hb : Below n A B) (hn : hi ≤ n) : Kept B lo hi go gv s ps v := h.span (.below hb hn)

/-- how a round ended: it goes on (true), or it has said 'no more' -/
def Came (A B : World → Prop) (e : Ending) (w' : World) : Prop := ∃ b : Bool, e = .returned (.bool b) ∧ ((b = true ∧ A w') ∨ (b = false ∧ B w'))
theorem came {A B : World → Prop} {e : Ending} {w' : World} (h : (e = .returned (.bool true) ∧ A w') ∨ (e = .returned (.bool false) ∧ B w')) : Came A B e w' := by
  rcases h with ⟨rfl, h⟩ | ⟨rfl, h⟩
  · exact ⟨true, rfl, .inl ⟨rfl, h⟩⟩
  · exact ⟨false, rfl, .inr ⟨rfl, h⟩⟩

set_option maxRecDepth 100000 in
set_option maxHeartbeats 2000000 in
theorem above1_in (n : Nat) (hn : 1 ≤ n) (l lo hi go gv : Nat) (s : Value) (ps : List Int) (v : Int) (hbig : ps.length * 8 ≤ 140737488351232) (hx : ∀ x ∈ ps, I64 x) (J Jx : List Nat → World → Prop)
    (hY : ∀ pre x W, J pre W → pre.length < (aboveF ps v).length → YieldAt Fence.wide (n - 1) Try.prog l (encN x) W fun e W' =>
      (e = .returned (.bool true) ∧ J (pre ++ [x]) W' ∧ Span lo hi W W') ∨ (e = .returned (.bool false) ∧ Jx (pre ++ [x]) W'))
    (W : World) (hh : hi ≤ W.heap.size) (hJ : AbidesFrom W.heap.size J) (hT : Kept W lo hi go gv s ps v) (h0 : J [] W) :
    CallsIn Fence.wide n Try.prog 19 #[.func (.yield l) #[] #[], .pointer (some ⟨go, 0, none⟩), .pointer (some ⟨gv, 0, none⟩)] W fun e W' => (∃ v, e = .returned v) ∧
      ((∃ ys, ys = aboveF ps v ∧ J ys W') ∨ (∃ pre, (pre ≠ [] ∧ pre <+: aboveF ps v) ∧ Jx pre W')) := by
  refine callsIn_of_wp Try.func19 rfl trivial ?_ rfl
  simp only [Try.ntmps19, List.size_toArray, List.length_cons, List.length_nil, Nat.reduceAdd, Nat.reduceSub, Array.replicate_succ, Array.replicate_zero, List.push_toArray, List.append_toArray, List.nil_append, List.cons_append]
  obtain ⟨ao, co, rfl, _, _, hat, _, _⟩ := at_of_owns hT.row
  have c1 := hT.own.cell 0
  have c2 := hT.vv.cell 0
  have HT := Lib.hid hT
  have G := Lib.hid (good_calls ao co ps v W (by omega) hat hx)
  clear hT hat hx
  by_cases hok : Ok ps ∧ 0 ≤ v ∧ v < ps.length
  · simp only [decide_eq_true hok] at G
    have hy := aboveF_yes hok
    obtain ⟨k0, rfl⟩ : ∃ k : Nat, v = k := ⟨v.toNat, by omega⟩
    simp only [Int.toNat_natCast] at hy
    have HO := Lib.hid hok.1
    have hk0 : k0 < ps.length := by omega
    have hn16 := hok.1.2.1
    rw [hy] at hY ⊢
    clear hok
    gi_wp2_with (first | (refine ⟨trivial, ?_⟩; gi_at_call 20; refine (callsIn_wide.2 G.out).mono ?_; rintro e w2 ⟨rfl, hB⟩; have T2 := HT.out.below hB hh; have c3 := T2.vv.cell 0; have J2 := hJ [] W w2 none h0 ⟨hB.os, hB.tape, hB.output, hB.size, fun g hg _ => hB.block g hg⟩ (fun r e => by cases e); clear c1 c2))
    clear c3 HT G
    gi_loopw [4] (fun i wr => ∃ (pre : List Nat) (p : Int), i = .int .i64 p ∧ J pre wr ∧ Hid (Kept wr lo hi go gv (.slice ao ps.length co) ps k0) ∧ Hid (pre ++ tail ps p = chain ps k0) ∧ -1 ≤ p ∧ p < ps.length) (fun i _ => (tail ps (intOf i)).length)
    case atStart => exact ⟨[], k0, rfl, J2, T2, by simp [Hid, tail], by omega, by omega⟩
    case round =>
      obtain ⟨pre, p, rfl, hJs, HT, H, hp1, hp2⟩ := hrel
      clear T2 J2
      by_cases hp : p = -1
      · subst hp
        have e := H.out
        rw [show tail ps (-1) = [] from rfl, List.append_nil] at e
        subst e
        clear H hY
        gi_wp2
        go_end0
        exact ⟨⟨_, rfl⟩, .inl ⟨_, rfl, hJs⟩⟩
      · obtain ⟨k, rfl⟩ : ∃ k : Nat, p = k := ⟨p.toNat, by omega⟩
        have hk : k < ps.length := by omega
        have hu := (HO.out.2.2 k hk).up
        have e := H.out
        have e0 : tail ps (k : Int) = k :: tail ps (par ps k) := by
          rw [← chain_fine hu]; simp [tail]
        rw [e0] at e
        have hlen : pre.length < (chain ps k0).length := by rw [← e]; simp
        have e' : Hid ((pre ++ [k]) ++ tail ps (par ps k) = chain ps k0) := by simpa [Hid] using e
        have hmeas : (tail ps (par ps k)).length < (tail ps (k : Int)).length := by rw [e0]; simp
        have HM := Lib.hid hmeas
        have hpre : Hid (pre ++ [k] <+: chain ps k0) := ⟨_, e'.out⟩
        clear H e e0 hmeas
        obtain ⟨fn, tmps, assign, body, hy', hR⟩ := hY _ k wr hJs hlen
        unfold encN at hy'
        have hR2 := hR.mono (R' := Came (fun W' => J (pre ++ [k]) W' ∧ Span lo hi wr W') (Jx (pre ++ [k]))) (fun e W' h => came h)
        clear hR hY
        gi_wp2
        refine hR2.mono ?_
        rintro e W3 ⟨b, rfl, hW⟩
        rcases hW with ⟨rfl, hJ3, hk3⟩ | ⟨rfl, hJx3⟩
        · have T3 := HT.out.span hk3
          have c1 := T3.own.cell 0
          obtain ⟨_, _, hv, _, _, hat3, _, _⟩ := at_of_owns T3.row
          cases hv
          obtain ⟨b, off, rfl, hcell⟩ := par_at hat3 k hk
          have HT3 := Lib.hid T3
          clear T3 hR2 hy' hat3 HT
          gi_wp2
          go_roundw
          case rel => exact ⟨pre ++ [k], _, rfl, hJ3, HT3.out, e', by omega, by omega⟩
          case measure => exact HM.out
        · clear hR2 hy'
          gi_wp2
          refine bodyPost_ret (results_none rfl _ _ _) rfl ?_
          exact ⟨⟨_, rfl⟩, .inr ⟨_, ⟨by simp, hpre.out⟩, hJx3⟩⟩
  · simp only [decide_eq_false hok] at G
    rw [aboveF_no hok]
    gi_wp2_with (first | (refine ⟨trivial, ?_⟩; gi_at_call 20; refine (callsIn_wide.2 G.out).mono ?_; rintro e w2 ⟨rfl, hB⟩))
    have J2 := hJ [] W w2 none h0 ⟨hB.os, hB.tape, hB.output, hB.size, fun g hg _ => hB.block g hg⟩ (fun r e => by cases e)
    refine bodyPost_ret (results_none rfl _ _ _) rfl ?_
    exact ⟨⟨_, rfl⟩, .inl ⟨_, rfl, J2⟩⟩

/-- what Above hands back goes over an account and those above it, or stops where it is told to -/
theorem above_stops (n : Nat) (hn : 1 ≤ n) (lo hi go gv : Nat) (s : Value) (ps : List Int) (v : Int) (hbig : ps.length * 8 ≤ 140737488351232) (hx : ∀ x ∈ ps, I64 x) (w : World) (hT : Kept w lo hi go gv s ps v) (hh : hi ≤ w.heap.size) :
    SeqStopsK Fence.wide n Try.prog 19 #[.pointer (some ⟨go, 0, none⟩), .pointer (some ⟨gv, 0, none⟩)] encN (Span lo hi) (fun ys => ys = aboveF ps v) (fun pre => pre ≠ [] ∧ pre <+: aboveF ps v) (aboveF ps v).length w := fun l J Jx W hW hJ _ hY h0 => by
  exact above1_in n hn l lo hi go gv s ps v hbig hx J Jx hY W (Nat.le_trans hh hW.size) hJ (hT.below hW hh) h0
theorem count_own (g : Nat) (t : TypeId) (B : Nat) : OwnFrom B (fun (pre : List Nat) W => Box W g t #[.int .i64 (pre.length : Nat)]) :=
  fun _ _ _ _ hs hg hr => hs.grown hg (fun r e => (hr r e).2)
theorem span_t {lo hi : Nat} {A B C : World} (h : Span lo hi A B) (k : Span lo hi B C) : Span lo hi A C := h.trans k

set_option maxHeartbeats 1000000 in
set_option maxRecDepth 100000 in
theorem depth_calls (a : Option Addr) (cap : Nat) (ps : List Int) (v : Int) (w : World) (hbig : ps.length * 8 ≤ 140737488351232) (hc : At w a (i64s ps)) (hx : ∀ x ∈ ps, I64 x) :
    Calls Try.prog 10 #[.slice a ps.length cap, .int .i64 v] w fun e w' => e = .returned (.int .i64 ((aboveF ps v).length : Int)) ∧ Below w.heap.size w w' := by
  have hlen4 := aboveF_len ps v
  have HX := Lib.hid hx
  have A0 := Lib.hid (fun W hW => above_calls a cap ps v W hbig (hc.keep (w' := W) hW))
  clear hx hc
  refine (callsIn_wide (n := 9)).1 (callsIn_of_wp_marks Try.func10 rfl trivial ?_ rfl)
  refine wpIn_wide.2 ?_
  simp only [Try.ntmps10, List.size_toArray, List.length_cons, List.length_nil, Nat.reduceAdd, Nat.reduceSub, Array.replicate_succ, Array.replicate_zero, List.push_toArray, List.append_toArray, List.nil_append, List.cons_append]
  have G0 := Box.new w 3 #[.int .i64 0]
  have B0 := (Below.refl w.heap.size w).alloc (Nat.le_refl _) (.cells #[.int .i64 0] 3)
  have z0 : w.heap.size < (w.alloc (.cells #[.int .i64 0] 3)).heap.size := by simp
  have A1 := Lib.hid (A0.out _ B0)
  clear A0
  go_wp2_with (first | (go_at_call 9; refine A1.out.mono ?_; rintro e w2 ⟨go, gv, s, rfl, K2, hB2⟩; unfold seqF))
  have G2 := G0.keep hB2
  have B2 := B0.trans (hB2.mono (Nat.le_of_lt z0))
  have z2 := B2.size
  have zz := hB2.size
  generalize (w.alloc (.cells #[.int .i64 0] 3)).heap.size = lo at *
  refine wpIn_wide.1 (wpIn_rangeFunc_ownF (n := 9) (encs := encN) rfl (by decide) (gf := 19) (lb := #[.pointer (some ⟨go, 0, none⟩), .pointer (some ⟨gv, 0, none⟩)]) rfl trivial (enters_of Try.func19 (by kernel_rfl) rfl)
    (above_stops 8 (by decide) lo w2.heap.size go gv s ps v hbig HX.out w2 K2 (Nat.le_refl _)) span_t (Span.put (Nat.le_refl _)) (Below.refl _ _) (fun _ => rfl)
    (fun pre W => Box W w.heap.size 3 #[.int .i64 (pre.length : Nat)] ∧ Below w.heap.size w W)
    (fun c _ W => False)
    ((count_own w.heap.size _ _).and (ownFrom_below (Nat.le_refl _) z2)) (fun c => own_false _) ⟨G2, B2⟩
    _ (by intro l x W K hK; unfold encN; gi_wp2; exact hK) ?body ?done ?stop)
  case body =>
    rintro l pre x W ⟨hG, hB⟩ hlen
    have cn := hG.cell 0
    have fn := hG.frozen 0
    have HG := Lib.hid (hG.set 0 (.int .i64 ((pre.length : Int) + 1)))
    have HK := Lib.hid (KeepsOthers.setCell W ⟨w.heap.size, 0, none⟩ (.int .i64 ((pre.length : Int) + 1)))
    have HB := Lib.hid (hB.setCell (p := ⟨w.heap.size, 0, none⟩) (Nat.le_refl _) (.int .i64 ((pre.length : Int) + 1)))
    have HS := Lib.hid (Span.set (lo := lo) (hi := w2.heap.size) W ⟨w.heap.size, 0, none⟩ (.int .i64 ((pre.length : Int) + 1)) (.inl z0))
    gi_wp2
    exact ⟨HK.out, HS.out, by have := HG.out; simpa using this, HB.out⟩
  case done =>
    rintro D ys W hD rfl ⟨hG, hB⟩ hK
    have cn := hG.cell 0
    have hK' : MarkAt W D := hK
    go_wp2_with fail
    refine leave_marks (B := w.heap.size) [D] _ (by simp; omega) (by simp) (by simp; exact hK') (fun W' hb hx => ?_)
    exact ⟨_, by simp [results, Try.f10, go_sem], rfl, hB.trans hb⟩
  case stop =>
    rintro D c pre W hD hpre h hK
    exact h.elim
end Go.Proofs.Ytmnhmlbpaebabaa.TreeW
