/- TreeKeeps: the walk, and the step from the law's arguments to it. -/
import Derived.Test.YtmnhmlbpaebabaaTreeLawBase
import Derived.Deep.Cut
import Derived.Deep.RegionHeld3
namespace Go.Proofs.Ytmnhmlbpaebabaa.treeKeeps
open Go.ChangeShapes Go.WideShapes Go.ChangeAt Go.RowKit Go.Shelf Go.Proofs.Ytmnhmlbpaebabaa.Bas Go.Proofs.Ytmnhmlbpaebabaa.TreeM Go.Proofs.Ytmnhmlbpaebabaa.TreeW
attribute [local go_sem] Oper.semAt_some

theorem eqIn_func_nil {P : Program} (d : Nat) (W : World) (t : TypeId) (s : TypeDesc) (f : Fn) (b c : Array Value) (h : P.underlying t = some s) (hs : ∃ a r v, s = .func a r v) : (Op.equalIn (d + 1) t (.func f b c) .nilFunc).run P W = .ok false W := by
  obtain ⟨a, r, v, rfl⟩ := hs
  simp [Op.equalIn, run_underlying h]
theorem seq_nil (W : World) (f : Fn) (b c : Array Value) : (binOp .eql 26 (.func f b c) .nilFunc).run Try.prog W = .ok (.bool false) W := by
  have h : (Op.equal 26 (.func f b c) .nilFunc).run Try.prog W = .ok false W := eqIn_func_nil 9999 W _ _ f b c Try.underlying26 ⟨_, _, _, rfl⟩
  simp only [binOp]
  simp [h]
attribute [local go_sem] seq_nil
theorem quiet_more {P : Program} {f : FuncId} {args : Array Value} {w : World} {n : Nat} {v : Value}
    (h : Calls P f args (w.drewN n) fun e w' => e = .returned v ∧ ∃ k, w' = (w.drewN n).drewN k) : Calls P f args (w.drewN n) fun e w'' => e = .returned v ∧ ∃ m, w'' = w.drewN m :=
  h.mono fun _ _ ⟨he, k, hk⟩ => ⟨he, n + k, hk.trans (World.drewN_drewN _ _ _)⟩
/-- all blocks but one stand -/
structure Off (o : Option Nat) (A B : World) : Prop where
  size : A.heap.size ≤ B.heap.size
  same : ∀ h, h < A.heap.size → o ≠ some h → B.heap[h]? = A.heap[h]?
theorem Off.refl (o : Option Nat) (A : World) : Off o A A := ⟨Nat.le_refl _, fun _ _ _ => rfl⟩
theorem Off.trans {o : Option Nat} {A B C : World} (h : Off o A B) (k : Off o B C) : Off o A C :=
  ⟨Nat.le_trans h.size k.size, fun g hg hn => (k.same g (Nat.lt_of_lt_of_le hg h.size) hn).trans (h.same g hg hn)⟩
theorem Off.set {A : World} {g i : Nat} (u : Value) : Off (some g) A (A.setCell ⟨g, i, none⟩ u) :=
  ⟨(Below.setCell (Below.refl 0 A) (p := ⟨g, i, none⟩) (Nat.zero_le _) u).size |> fun _ => by simp, fun h _ hn => Below.heap_setCell A _ u h (fun e => hn (by rw [e]))⟩
theorem Off.below {A B : World} (o : Option Nat) (h : Below A.heap.size A B) : Off o A B := ⟨h.size, fun g hg _ => h.block g hg⟩
theorem Off.grown {A B : World} {o : Option Nat} (h : A.grownBy B o) (hz : A.heap.size ≤ B.heap.size) : Off o A B := ⟨hz, fun g hg hn => h.block g hg (fun e => hn e.symm)⟩
theorem off_box {A B : World} {o : Option Nat} {g : Nat} {t : TypeId} {cs : Array Value} (h : Box A g t cs) (k : Off o A B) (hne : o ≠ some g) : Box B g t cs := (k.same g h.lt hne).trans h
theorem off_own {A B : World} {o : Option Nat} {base : Nat} {e : TypeId} {size : Nat} {v : Value} {n : Nat} {xs : List Value} (h : A.ownsRow base e size v n xs) (k : Off o A B) (hne : ∀ g, v.ownBlock = some g → o ≠ some g) : B.ownsRow base e size v n xs := by
  refine ⟨h.1, ?_⟩
  rcases h.2 with hn | ⟨g, cap, cur, rfl, hbg, hg, rest⟩
  · exact .inl hn
  · exact .inr ⟨g, cap, cur, rfl, hbg, (k.same g (Array.getElem?_eq_some_iff.1 hg).1 (hne g rfl)).trans hg, rest⟩
theorem kept_off {A B : World} {o : Option Nat} {lo hi go gv : Nat} {s : Value} {ps : List Int} {v : Int} (h : Kept A lo hi go gv s ps v) (k : Off o A B) (hz : hi ≤ A.heap.size) (ho : ∀ g, o = some g → g < lo ∨ hi ≤ g) : Kept B lo hi go gv s ps v :=
  h.span (fun g h1 h2 => k.same g (by omega) (fun e => by have := ho g e; omega))
/-- the law's two variables in boxes: what came in, and the answer -/
structure Base (w W : World) (s : Value) (b : Bool) : Prop where
  P : Box W w.heap.size 22 #[s]
  R : Box W (w.heap.size + 1) 4 #[.bool b]
  low : Below w.heap.size w W
  two : w.heap.size + 2 ≤ W.heap.size
theorem Base.under {w A B : World} {s : Value} {b : Bool} (h : Base w A s b) (hb : Below (w.heap.size + 2) A B) : Base w B s b :=
  ⟨h.P.below hb (by omega), h.R.below hb (by omega), h.low.trans (hb.mono (by omega)), Nat.le_trans h.two hb.size⟩
theorem Base.keep {w A B : World} {s : Value} {b : Bool} (h : Base w A s b) (hb : Below A.heap.size A B) : Base w B s b := h.under (hb.mono h.two)
theorem Base.alloc {w A : World} {s : Value} {b : Bool} (h : Base w A s b) (o : Obj) : Base w (A.alloc o) s b := h.keep ((Below.refl _ _).alloc (Nat.le_refl _) _)
theorem Base.drewN {w A : World} {s : Value} {b : Bool} (h : Base w A s b) (n : Nat) : Base w (A.drewN n) s b := ⟨h.P, h.R, below_drewN h.low n, h.two⟩
theorem Base.set {w A : World} {s : Value} {b : Bool} (h : Base w A s b) (c : Bool) : Base w (A.setCell ⟨w.heap.size + 1, 0, none⟩ (.bool c)) s c :=
  ⟨h.P.far (by simp) _, by simpa using h.R.set 0 (.bool c), h.low.setCell (p := ⟨w.heap.size + 1, 0, none⟩) (by simp) _, by have := h.two; simpa using this⟩
theorem row_own {β : Type} (base : Nat) (e : TypeId) (size : Nat) (v : Value) (n : Nat) (xs : List Value) (B : Nat) : OwnFrom B (fun (_ : β) W => W.ownsRow base e size v n xs) := by
  intro _ A C row hs hg hr
  refine ⟨hs.1, ?_⟩
  rcases hs.2 with hn | ⟨g, cap, cur, rfl, hbg, hgg, r⟩
  · exact .inl hn
  · exact .inr ⟨g, cap, cur, rfl, hbg, Box.grown (t := e) (cs := cur) hgg hg (fun r e => (hr r e).2), r⟩
theorem base_own {β : Type} (w : World) (s : Value) (b : Bool) {B : Nat} (hB : w.heap.size ≤ B) : OwnFrom B (fun (_ : β) W => Base w W s b) :=
  fun x A C row hs hg hr => ⟨box_own (β := β) _ _ _ B x A C row hs.P hg hr, box_own (β := β) _ _ _ B x A C row hs.R hg hr,
    ownFrom_below (β := β) (Nat.le_refl _) hB x A C row hs.low hg hr, Nat.le_trans hs.two hg.size⟩
/-- what the loop has gathered -/
def Got (gg : Nat) (pre : List Nat) (W : World) : Prop := ∃ s, Box W gg 22 #[s] ∧ W.ownsRow (gg + 1) 3 1 s pre.length (i64s (ints pre))
theorem got_own (gg : Nat) (B : Nat) : OwnFrom B (fun (pre : List Nat) W => Got gg pre W) := by
  rintro pre A C row ⟨s, hb, ho⟩ hg hr
  exact ⟨s, box_own (β := List Nat) _ _ _ B pre A C row hb hg hr, row_own (β := List Nat) _ _ _ _ _ _ B pre A C row ho hg hr⟩

theorem own_cells {W : World} {base : Nat} {e : TypeId} {size : Nat} {v : Value} {n : Nat} {xs : List Value} (h : W.ownsRow base e size v n xs) : ∀ (j : Nat) (o : Obj), v.ownBlock = some j → W.heap[j]? = some o → o.isCells = true := by
  intro j o hj ho
  rcases h.2 with ⟨rfl, _⟩ | ⟨g, cap, cur, rfl, _, hg, _⟩
  · cases hj
  · cases hj
    have := ho.symm.trans hg
    cases this
    rfl
/-- Below, its list by a name -/
theorem below_xs (ps : List Int) (v : Int) (hbig : ps.length * 8 ≤ 140737488351232) (hx : ∀ x ∈ ps, I64 x) : ∃ xs : List Int, xs.length ≤ 16 ∧ ∀ a cap W, At W a (i64s ps) →
    Calls Try.prog 11 #[.slice a ps.length cap, .int .i64 v] W fun e w' => ∃ a8 c8, e = .returned (.slice a8 xs.length c8) ∧ w'.ownsRow W.heap.size 3 1 (.slice a8 xs.length c8) xs.length (i64s xs) ∧ Below W.heap.size W w' := by
  refine ⟨ints (belowF ps v), ?_, fun a cap W h => ?_⟩
  · rw [ints_len]
    unfold belowF
    split
    · rename_i hok
      exact Nat.le_trans (belowN_len _ _ _) hok.1.2.1
    · simp
  · refine (below_calls a cap ps v W hbig h hx).mono ?_
    rintro e w8 ⟨s, rfl, own, b⟩
    obtain ⟨a8, c8, rfl, _⟩ := at_of_owns own
    rw [← ints_len] at own ⊢
    exact ⟨a8, c8, rfl, own, b⟩

theorem aboveF_le (ps : List Int) (v : Int) : (aboveF ps v).length ≤ ps.length := by
  unfold aboveF
  split
  · rename_i h
    have := chain_len ps v.toNat
    omega
  · simp
theorem own_under {A C : World} {B : Nat} {base : Nat} {e : TypeId} {size : Nat} {v : Value} {n : Nat} {xs : List Value} (h : A.ownsRow base e size v n xs) (hb : Below B A C) (hlt : ∀ k, v.ownBlock = some k → k < B) : C.ownsRow base e size v n xs := by
  refine ⟨h.1, ?_⟩
  rcases h.2 with hn | ⟨g, cap, cur, rfl, hbg, hg, rest⟩
  · exact .inl hn
  · exact .inr ⟨g, cap, cur, rfl, hbg, (hb.block g (hlt g rfl)).trans hg, rest⟩
/-- what the last calls leave -/
structure FinS (w W0 : World) (s0 : Value) (a6 a10 ag : Option Addr) (xs us : List Value) (W : World) : Prop where
  K : Base w W s0 false
  b : At W a6 xs
  c : At W a10 xs
  g : At W ag us
  low : Below W0.heap.size W0 W
theorem FinS.keep {w W0 A B : World} {s0 : Value} {a6 a10 ag : Option Addr} {xs us : List Value} (h : FinS w W0 s0 a6 a10 ag xs us A) (hb : Below A.heap.size A B) : FinS w W0 s0 a6 a10 ag xs us B :=
  ⟨h.K.keep hb, h.b.keep hb, h.c.keep hb, h.g.keep hb, h.low.trans (hb.mono h.low.size)⟩
theorem FinS.drewN {w W0 A : World} {s0 : Value} {a6 a10 ag : Option Addr} {xs us : List Value} (h : FinS w W0 s0 a6 a10 ag xs us A) (n : Nat) : FinS w W0 s0 a6 a10 ag xs us (A.drewN n) :=
  ⟨h.K.drewN n, h.b.drewN n, h.c.drewN n, h.g.drewN n, below_drewN h.low n⟩
theorem FinS.drew {w W0 A : World} {s0 : Value} {a6 a10 ag : Option Addr} {xs us : List Value} (h : FinS w W0 s0 a6 a10 ag xs us A) : FinS w W0 s0 a6 a10 ag xs us A.drew :=
  ⟨⟨h.K.P, h.K.R, ⟨h.K.low.os, h.K.low.tape, h.K.low.output, h.K.low.size, h.K.low.block⟩, h.K.two⟩, h.b, h.c, h.g, ⟨h.low.os, h.low.tape, h.low.output, h.low.size, h.low.block⟩⟩
theorem first_fin {w W0 A B : World} {n : Nat} {s0 : Value} {a6 a10 ag : Option Addr} {xs us : List Value} (h : FinS w W0 s0 a6 a10 ag xs us A) (hb : Below (A.drewN n).heap.size (A.drewN n) B) : FinS w W0 s0 a6 a10 ag xs us B := (h.drewN n).keep hb
theorem first_box {A B : World} {n g : Nat} {t : TypeId} {cs : Array Value} (h : Box A g t cs) (hb : Below (A.drewN n).heap.size (A.drewN n) B) : Box B g t cs := (h.drewN n).keep hb
theorem first_mark {A B : World} {n D : Nat} (h : MarkAt A D) (hb : Below (A.drewN n).heap.size (A.drewN n) B) : MarkAt B D := MarkAt.below (A := A.drewN n) h hb (Array.getElem?_eq_some_iff.1 h).1
/-- a round of the gathering loop -/
theorem fin_ok {w W : World} {x gg n hi lo : Nat} {pre : List Nat} {s s0 vb vw : Value} {xb xw : List Value} (hgg : w.heap.size + 2 ≤ gg) (hK : Base w W s0 false) (hBo : W.ownsRow 0 3 1 vb n xb) (hWo : W.ownsRow 0 3 1 vw n xw)
    (hb : Box W gg 22 #[s]) (ho : W.ownsRow (gg + 1) 3 1 s pre.length (i64s (ints pre))) (BL : ∀ k, vb.ownBlock = some k → k < gg) (WL : ∀ k, vw.ownBlock = some k → k < gg) (hhi : hi ≤ gg) :
    ∀ v' w1, w1.ownsRow (gg + 1) 3 1 v' (pre.length + 1) (i64s (ints pre) ++ [.int .i64 (x : Int)]) → (W.alloc (.cells #[.int .i64 (x : Int)] 3)).grownBy w1 s.ownBlock →
      w1.cell? ⟨gg, 0, none⟩ = some s ∧ w1.frozen? ⟨gg, 0, none⟩ = false ∧ w1.cell? ⟨w.heap.size, 0, none⟩ = some s0 ∧
      (KeepsOthers W (w1.setCell ⟨gg, 0, none⟩ v') ∧ Span lo hi W (w1.setCell ⟨gg, 0, none⟩ v') ∧ Base w (w1.setCell ⟨gg, 0, none⟩ v') s0 false ∧ (w1.setCell ⟨gg, 0, none⟩ v').ownsRow 0 3 1 vb n xb ∧ (w1.setCell ⟨gg, 0, none⟩ v').ownsRow 0 3 1 vw n xw ∧ Got gg (pre ++ [x]) (w1.setCell ⟨gg, 0, none⟩ v')) := by
  intro v' w1 hown hgrow
  have bel : Below (gg + 1) W w1 := ((Below.refl (gg + 1) W).alloc hb.lt _).grown hgrow (by simp; have := hb.lt; omega) (fun k hk => (ho.lt k hk).1)
  have hb1 : Box w1 gg 22 #[s] := hb.below bel (by omega)
  have bs : Below gg W (w1.setCell ⟨gg, 0, none⟩ v') := (bel.mono (Nat.le_succ _)).setCell (p := ⟨gg, 0, none⟩) (Nat.le_refl _) _
  have K1 := hK.under (bel.mono (by omega))
  refine ⟨hb1.cell 0, hb1.frozen 0, K1.P.cell 0, ((KeepsOthers.alloc W _).trans (KeepsOthers.of_grownBy hgrow (own_cells (ho.alloc _)))).trans (KeepsOthers.setCell _ _ _), Span.below bs hhi, hK.under (bs.mono hgg), own_under hBo bs BL, own_under hWo bs WL,
    ⟨v', by simpa using hb1.set 0 v', ?_⟩⟩
  exact ownsRow_setCell_below (own_snoc hown) (a := ⟨gg, 0, none⟩) (Nat.lt_succ_self _) _
/-- the document's Above, its list by a name -/
theorem rabove_xs (a : Option Addr) (cap : Nat) (ps : List Int) (v : Int) (W : World) (hbig : ps.length ≤ 9223372036854775807) (h : At W a (i64s ps)) (hx : ∀ x ∈ ps, I64 x) :
    Calls Try.prog 8 #[.slice a ps.length cap, .int .i64 v] W fun e w' => ∃ a8 c8, e = .returned (.slice a8 (ints (aboveF ps v)).length c8) ∧ At w' a8 (i64s (ints (aboveF ps v))) ∧ Below W.heap.size W w' := by
  refine (rabove_calls a cap ps v W hbig h hx).mono ?_
  rintro e w8 ⟨s, rfl, own, b⟩
  obtain ⟨a8, c8, rfl, _, _, hat, _⟩ := at_of_owns own
  rw [← ints_len]
  exact ⟨a8, c8, rfl, hat, b⟩

set_option maxHeartbeats 4000000 in
set_option maxRecDepth 100000 in
theorem walk (a : Option Addr) (cap : Nat) (ps : List Int) (v : Int) (w : World) (hbig : ps.length * 8 ≤ 140737488351232) (hc : At w a (i64s ps)) (hx : ∀ x ∈ ps, I64 x) :
    Calls Try.prog 5 #[.slice a ps.length cap, .int .i64 v] w fun e w' => e = .returned (.bool true) ∧ Below w.heap.size w w' := by
  have C0 := Lib.hid (fun W => wakes_calls W)
  have HC := Lib.hid hc
  have HX := Lib.hid hx
  clear hc hx
  refine (callsIn_wide (n := 9)).1 (callsIn_of_wp_marks Try.func5 rfl trivial ?_ rfl)
  refine wpIn_wide.2 ?_
  simp only [Try.ntmps5, List.size_toArray, List.length_cons, List.length_nil, Nat.reduceAdd, Nat.reduceSub, Array.replicate_succ, Array.replicate_zero, List.push_toArray, List.append_toArray, List.nil_append, List.cons_append]
  go_upto_region 1 with fail
  have K0 : Base w ((w.alloc (.cells #[.slice a ps.length cap] 22)).alloc (.cells #[.bool false] 4)) (.slice a ps.length cap) false :=
    ⟨(Box.new w _ _).alloc _, by have := Box.new (w.alloc (.cells #[.slice a ps.length cap] 22)) 4 #[.bool false]; simpa using this,
      ((Below.refl w.heap.size w).alloc (Nat.le_refl _) _).alloc (by simp) _, by simp⟩
  generalize (w.alloc (.cells #[.slice a ps.length cap] 22)).alloc (.cells #[.bool false] 4) = w0 at *
  go_wp2_with (go_at_call 7; refine (C0.out _).mono ?_; rintro e w1 ⟨rfl, b1⟩; have K1 := K0.keep b1; have c1 := K1.P.cell 0; have zw1 := K1.two; clear K0 b1 C0; refine Hid.out ?_)
  refine Lib.hid ?_
  have c1' := (K1.alloc (.cells #[] 3)).P.cell 0
  have HA1 := Lib.hid ((HC.out.keep K1.low).keep ((Below.refl _ _).alloc (Nat.le_refl _) (.cells #[] 3)))
  go_upto_region 4 with (first
    | (at_builtin; refine wpList_append_at _ rfl (.tmp 16) (.tmp 17) elem64 rfl w1.heap.size (.slice (some ⟨w1.heap.size, 0, none⟩) 0 0) 0 [] rfl (owns_empty w1 _ _ _ (Nat.le_refl _)) a ps.length cap (i64s ps) rfl (by rw [i64s_len]; omega) HA1.out (one_i64 ps) (by unfold maxLen; omega) (by omega) (by simp) ?_; intro v2 w2 own2 bel2 _ _; have hB2 := ((Below.refl w1.heap.size w1).alloc (Nat.le_refl _) _).trans bel2; have z2 := hB2.size; simp only [Nat.zero_add, List.nil_append] at own2)
    | (at_builtin; refine wpList_append_at _ rfl (.tmp 18) (.tmp 19) elem64 rfl w1.heap.size v2 ps.length (i64s ps) rfl (own2.alloc _) (some ⟨w2.heap.size, 0, none⟩) 1 1 [.int .i64 71] rfl rfl (at_alloc w2 #[.int .i64 71] _ _) (by simp [Value.oneCell']) (by unfold maxLen; omega) (by omega) (by simp; omega) ?_; intro v3 w3 own3 bel3 _ _; have hB3 := (hB2.alloc z2 _).trans bel3; have z3 := hB3.size; clear own2 bel2 bel3 hB2 z2; obtain ⟨g, c3, rfl, hg1, hg2⟩ := own3.form (by omega)))
  have K3 := K1.keep hB3
  have c3' := K3.P.cell 0
  obtain ⟨a3, c4, hv, _, hcap, hat3, _, _⟩ := at_of_owns own3
  cases hv
  have HA3 : Hid (At w3 (some ⟨g, 0, none⟩) (i64s ps)) := by
    have := hat3.take ps.length
    rwa [List.take_left' (i64s_len ps)] at this
  have O3 := Lib.hid own3
  have K1z := Lib.hid K1.two
  clear hat3 own3 K1 c1 hB3 HA1
  obtain ⟨xs, hxl, C2⟩ := below_xs ps v hbig HX.out
  have HN1 := Lib.hid (fun W (h : At W (some ⟨g, 0, none⟩) (i64s ps)) => above_calls (some ⟨g, 0, none⟩) c3 ps v W hbig h)
  have HN2 := Lib.hid (fun W (h : At W (some ⟨g, 0, none⟩) (i64s ps)) => C2 (some ⟨g, 0, none⟩) c3 W h)
  have HN3 := Lib.hid (fun W (h : At W (some ⟨g, 0, none⟩) (i64s ps)) => check_calls (some ⟨g, 0, none⟩) c3 ps W (by omega) h HX.out)
  clear C2
  go_upto_region 8 with (first
    | (go_at_call 9; refine (HN1.out _ HA3.out).mono ?_; rintro e w4 ⟨go, gv, s4, rfl, kp4, b4⟩; unfold seqF; have K4 := K3.keep b4; have c4' := K4.P.cell 0; have HA4 := Lib.hid (HA3.out.keep b4); have O4 := Lib.hid (owns_below O3.out b4); have KP4 := Lib.hid kp4; have z4 := b4.size; clear kp4 b4 K3 c3' HA3 O3 HN1)
    | (go_at_call 11; refine (HN2.out _ HA4.out).mono ?_; rintro e w5 ⟨a5, c5, rfl, own5, b5⟩; have K5 := K4.keep b5; have c5' := K5.P.cell 0; have HA5 := Lib.hid (HA4.out.keep b5); have O5 := Lib.hid (owns_below O4.out b5); have KP5 := Lib.hid (KP4.out.below b5 (Nat.le_refl _)); have OA5 := Lib.hid own5; have z5 := b5.size; clear own5 b5 K4 c4' HA4 O4 KP4)
    | (go_at_call 11; refine (HN2.out _ HA5.out).mono ?_; rintro e w6 ⟨a6, c6, rfl, own6, b6⟩; have K6 := K5.keep b6; have c6' := K6.P.cell 0; have AZ := Lib.hid (fun h (e : (Value.slice a5 xs.length c5).ownBlock = some h) => (OA5.out.lt h e).2); have HA6 := Lib.hid (HA5.out.keep b6); have O6 := Lib.hid (owns_below O5.out b6); have KP6 := Lib.hid (KP5.out.below b6 z5); have OA6 := Lib.hid (owns_below OA5.out b6); have OB6 := Lib.hid own6; have z6 := b6.size; clear own6 b6 K5 c5' HA5 O5 KP5 OA5)
    | (go_at_call 14; refine (HN3.out _ HA6.out).mono ?_; rintro e w7 ⟨rfl, b7⟩; have K7 := K6.keep b7; have c7' := K7.P.cell 0; have HA7 := Lib.hid (HA6.out.keep b7); have O7 := Lib.hid (owns_below O6.out b7); have KP7 := Lib.hid (KP6.out.below b7 (by omega)); have OA7 := Lib.hid (owns_below OA6.out b7); have OB7 := Lib.hid (owns_below OB6.out b7); have z7 := b7.size; clear b7 K6 c6' HA6 O6 KP6 OA6 OB6 HN3))
  clear HN2
  have hl7 : w7.cell? ⟨g, ps.length, none⟩ = some (.int .i64 71) := by
    have := O7.out.cellAt ps.length (by omega)
    rw [this, List.getElem?_append_right (by rw [i64s_len]; omega), i64s_len, Nat.sub_self]; rfl
  have s8 := fun n => same_calls (some ⟨g, 0, none⟩) a c3 cap ps ps (w7.drewN n) (by omega) (by omega) (HA7.out.drewN n) ((HC.out.keep K7.low).drewN n)
  simp only [decide_true] at s8
  have S8 := Lib.hid s8
  clear s8
  go_quiet ((first | (go_at_call 12; exact quiet_more (S8.out _))))
  have K8 := K7.drewN nq
  have O8 := Lib.hid (owns_drewN O7.out nq)
  have OA8 := Lib.hid (owns_drewN OA7.out nq)
  have OB8 := Lib.hid (owns_drewN OB7.out nq)
  have KP8 := Lib.hid (KP7.out.span (B := w7.drewN nq) (fun _ _ _ => rfl))
  have z8 : w6.heap.size ≤ (w7.drewN nq).heap.size := z7
  clear hl7 S8 K7 O7 OA7 OB7 KP7 HA7 c7' z7
  generalize w7.drewN nq = w8 at *
  go_wp2_with fail
  go_loopw [65] (fun i wr => ∃ k : Nat, k ≤ ps.length + 1 ∧ i = .int .i64 k ∧ (∃ ys, wr.ownsRow w1.heap.size 3 1 (.slice (some ⟨g, 0, none⟩) (ps.length + 1) c3) (ps.length + 1) ys) ∧ Off (some g) w8 wr ∧ Below (w.heap.size + 2) w8 wr) (fun i _ => ps.length + 1 - (intOf i).toNat)
  case atStart => exact ⟨0, by omega, rfl, ⟨_, O8.out⟩, Off.refl _ _, Below.refl _ _⟩
  case round =>
    obtain ⟨k, hk, rfl, ⟨ys, own⟩, hoff, hbr⟩ := hrel
    have zw := K1z.out
    by_cases hlt : k < ps.length + 1
    · have hlen := own.1
      have hcl := own.cellAt k (by omega)
      rw [List.getElem?_eq_getElem (by omega)] at hcl
      have hf := own.frozenAt k
      have hst := Lib.hid ((own.stored k (.int .i64 (-1))).1)
      have hbs := Lib.hid (hbr.setCell (p := ⟨g, k, none⟩) (by show w.heap.size + 2 ≤ g; omega) (.int .i64 (-1)))
      have hos := Lib.hid (hoff.trans (Off.set (A := wr) (g := g) (i := k) (.int .i64 (-1))))
      generalize ys[k] = old at hcl
      clear own hlen hoff hbr zw
      go_wp2
      go_roundw
      case rel => exact ⟨k + 1, by omega, by go_num, ⟨_, hst.out⟩, hos.out, hbs.out⟩
      case measure => simp [intOf]; omega
    · have K9 := K8.under hbr
      have z9 := hoff.size
      have KP9 := Lib.hid (kept_off KP8.out hoff (by omega) (fun h e => by cases e; exact .inl hg2))
      have OA9 := Lib.hid (off_own OA8.out hoff (fun h e e' => by cases e'; have := (OA8.out.lt _ e).1; omega))
      have OB9 := Lib.hid (off_own OB8.out hoff (fun h e e' => by cases e'; have := (OB8.out.lt _ e).1; omega))
      obtain ⟨a6', c6', hv6, _, hc6, hat6, _, _⟩ := at_of_owns OB9.out
      cases hv6
      have HA9 := Lib.hid (hat6.keep ((Below.refl _ _).alloc (Nat.le_refl _) (.cells #[] 3)))
      clear own hoff hbr K8 O8 OA8 OB8 KP8 hat6
      go_wp2_with (at_builtin; refine wpList_append_at _ rfl (.tmp 72) (.tmp 73) elem64 rfl wr.heap.size (.slice (some ⟨wr.heap.size, 0, none⟩) 0 0) 0 [] rfl (owns_empty wr _ _ _ (Nat.le_refl _)) a6 xs.length c6 (i64s xs) rfl (by rw [i64s_len]; omega) HA9.out (one_i64 xs) (by unfold maxLen; omega) (by omega) (by simp) ?_; intro v10 w10 own10 bel10 _ _; have b10 := ((Below.refl wr.heap.size wr).alloc (Nat.le_refl _) _).trans bel10; simp only [Nat.zero_add, List.nil_append] at own10; obtain ⟨a10, c10, rfl, _, hc10, _, _, _⟩ := at_of_owns own10)
      have K10 := K9.keep b10
      have z10 := b10.size
      have KP10 := Lib.hid (KP9.out.below b10 (by omega))
      have OA10 := Lib.hid (owns_below OA9.out b10)
      have OB10 := Lib.hid (owns_below OB9.out b10)
      have OW10 := Lib.hid own10
      clear own10 bel10 b10 K9 KP9 OA9 OB9 HA9
      go_loopw [77] (fun i wr => ∃ k : Nat, k ≤ xs.length ∧ i = .int .i64 k ∧ (∃ ys, wr.ownsRow w4.heap.size 3 1 (.slice a5 xs.length c5) xs.length ys) ∧ Off (Value.slice a5 xs.length c5).ownBlock w10 wr ∧ Below (w.heap.size + 2) w10 wr) (fun i _ => xs.length - (intOf i).toNat)
      case atStart => exact ⟨0, by omega, rfl, ⟨_, OA10.out⟩, Off.refl _ _, Below.refl _ _⟩
      case round =>
        obtain ⟨k, hk, rfl, ⟨ys, own⟩, hoff, hbr⟩ := hrel
        have zw := K1z.out
        by_cases hlt : k < xs.length
        · obtain ⟨g5, c5', hv5, hq5, _⟩ := own.form (by omega)
          cases hv5
          have hlen := own.1
          have hcl := own.cellAt k (by omega)
          rw [List.getElem?_eq_getElem (by omega)] at hcl
          have hf := own.frozenAt k
          have hst := Lib.hid ((own.stored k (.int .i64 9)).1)
          have hbs := Lib.hid (hbr.setCell (p := ⟨g5, k, none⟩) (by show w.heap.size + 2 ≤ g5; omega) (.int .i64 9))
          have hos := Lib.hid (hoff.trans (Off.set (A := wr) (g := g5) (i := k) (.int .i64 9)))
          generalize ys[k] = old at hcl
          clear own hlen hoff hbr zw
          go_wp2
          go_roundw
          case rel => exact ⟨k + 1, by omega, by go_num, ⟨_, hst.out⟩, hos.out, hbs.out⟩
          case measure => simp [intOf]; omega
        · have K11 := K10.under hbr
          have z11 := hoff.size
          have KP11 := Lib.hid (kept_off KP10.out hoff (by omega) (fun h e => .inr ((OA10.out.lt _ e).1)))
          have OB11 := Lib.hid (off_own OB10.out hoff (fun h e e' => by have := (OB10.out.lt _ e).1; have := AZ.out h e'; omega))
          have OW11 := Lib.hid (off_own OW10.out hoff (fun h e e' => by have := (OW10.out.lt _ e).1; have := AZ.out h e'; omega))
          have OA11 := Lib.hid own
          clear own hoff hbr K10 KP10 OA10 OB10 OW10
          go_upto_region 22 with (at_builtin; refine wpList_append_at _ rfl (.tmp 84) (.tmp 85) elem64 rfl w4.heap.size (.slice a5 xs.length c5) xs.length ys rfl (OA11.out.alloc _) (some ⟨wr.heap.size, 0, none⟩) 3 3 [.int .i64 1, .int .i64 2, .int .i64 3] rfl rfl (at_alloc wr #[.int .i64 1, .int .i64 2, .int .i64 3] _ _) (by simp [Value.oneCell']) (by unfold maxLen; omega) (by omega) (by simp; omega) ?_; intro v12 w12 own12 bel12 gr12 _; obtain ⟨a12, c12, rfl, _, hc12, _, _, _⟩ := at_of_owns own12)
          have b12 := ((Below.refl w4.heap.size wr).alloc (by omega) (.cells #[.int .i64 1, .int .i64 2, .int .i64 3] 3)).trans bel12
          have o12 : Off (Value.slice a5 xs.length c5).ownBlock wr w12 := (Off.below _ ((Below.refl _ _).alloc (Nat.le_refl _) _)).trans (Off.grown gr12 bel12.size)
          have K12 := K11.under (b12.mono (by omega))
          have z12 := o12.size
          have KP12 := Lib.hid (kept_off KP11.out o12 (by omega) (fun h e => .inr ((OA11.out.lt _ e).1)))
          have OB12 := Lib.hid (off_own OB11.out o12 (fun h e e' => by have := (OB11.out.lt _ e).1; have := AZ.out h e'; omega))
          have OW12 := Lib.hid (off_own OW11.out o12 (fun h e e' => by have := (OW11.out.lt _ e).1; have := AZ.out h e'; omega))
          clear own12 bel12 gr12 b12 o12 K11 KP11 OB11 OW11 OA11
          go_wp2_with fail
          have hGot : Got w12.heap.size [] (w12.alloc (.cells #[.slice none 0 0] 22)) := ⟨_, Box.new _ _ _, World.ownsRow_nil _ _ _ _⟩
          have K13 := K12.alloc (.cells #[.slice none 0 0] 22)
          have KP13 := Lib.hid (KP12.out.below ((Below.refl _ _).alloc (Nat.le_refl _) (.cells #[.slice none 0 0] 22)) (by omega))
          have OB13 := own_mono (OB12.out.alloc (.cells #[.slice none 0 0] 22)) (Nat.zero_le _)
          have OW13 := own_mono (OW12.out.alloc (.cells #[.slice none 0 0] 22)) (Nat.zero_le _)
          have BL : Hid (∀ k, (Value.slice a6 xs.length c6).ownBlock = some k → k < w12.heap.size) := fun k e => (OB12.out.lt k e).2
          have WL : Hid (∀ k, (Value.slice a10 xs.length c10).ownBlock = some k → k < w12.heap.size) := fun k e => (OW12.out.lt k e).2
          have z13 : w12.heap.size < (w12.alloc (.cells #[.slice none 0 0] 22)).heap.size := by simp
          have hgg := K12.two
          have hhi : w4.heap.size ≤ w12.heap.size := by omega
          clear K12 KP12 OB12 OW12
          generalize w12.heap.size = gg at *
          generalize w12.alloc (.cells #[.slice none 0 0] 22) = w13 at *
          have hN := Nat.le_trans (aboveF_le ps v) (Nat.le_refl _)
          have hN4 := aboveF_len ps v
          have hp13 := K13.low.size
          refine wpIn_wide.1 (wpIn_rangeFunc_ownF (n := 9) (encs := encN) rfl (by decide) (gf := 19) (lb := #[.pointer (some ⟨go, 0, none⟩), .pointer (some ⟨gv, 0, none⟩)]) rfl trivial (enters_of Try.func19 (by kernel_rfl) rfl)
            (above_stops 8 (by decide) w3.heap.size w4.heap.size go gv s4 ps v hbig HX.out w13 KP13.out (by omega)) span_t (Span.put (by omega)) (Below.refl _ _) (fun _ => rfl)
            (fun pre W => Base w W (.slice a ps.length cap) false ∧ W.ownsRow 0 3 1 (.slice a6 xs.length c6) xs.length (i64s xs) ∧ W.ownsRow 0 3 1 (.slice a10 xs.length c10) xs.length (i64s xs) ∧ Got gg pre W)
            (fun _ _ _ => False)
            ((base_own w _ false (by omega)).and ((row_own _ _ _ _ _ _ _).and ((row_own _ _ _ _ _ _ _).and (got_own gg _)))) (fun c => own_false _) ⟨K13, OB13, OW13, hGot⟩
            _ (by intro l x W K hK; unfold encN; gi_wp2; exact hK) ?body ?done ?stop)
          case body =>
            clear K13 KP13 OB13 OW13 hGot
            rintro l pre x W ⟨hK, hBo, hWo, ⟨s, hb, ho⟩⟩ hlen
            have cg := hb.cell 0
            have fg := hb.frozen 0
            have cp := hK.P.cell 0
            have zb := hb.lt
            have hgt : decide ((ps.length : Int) < (pre.length : Int) + 1) = false := decide_eq_false (by omega)
            have HF := Lib.hid (fin_ok (w := w) (W := W) (x := x) (lo := w3.heap.size) hgg hK hBo hWo hb ho BL.out WL.out hhi)
            obtain ⟨i0, hi, hz0, hz1, hz2⟩ := info_parts elem64.row
            have HOwn := Lib.hid ho
            have hp4 : pre.length < 4 := by omega
            clear ho hK hBo hWo hb
            gi_wp2_with (gi_at_builtin; refine wpListIn_append_own _ rfl _ _ 22 rfl (gg + 1) 3 i0 (.int .i64 0) 1 8 Try.underlying22 hi hz0 hz1 hz2 rfl (by decide) _ _ _ rfl (HOwn.out.alloc _) ⟨W.heap.size, 0, none⟩ 1 1 [.int .i64 (x : Int)] rfl rfl (cell_one_new _ _ _) (by simp [Value.oneCell']) (by unfold maxLen; omega) (by omega) (by simp; omega) ?_; intro v' w1' hown' hgrow _; have HF2 := HF.out v' w1' hown' hgrow; obtain ⟨g', cap', rfl⟩ := ownsRow_succ hown'; have cg1 := HF2.1; have fg1 := HF2.2.1; have cp1 := HF2.2.2.1; have HF3 := Lib.hid HF2.2.2.2; clear HF2 hown' hgrow HF HOwn)
            exact HF3.out
          case done =>
            rintro D ys W hD hys ⟨hK, hBo, hWo, ⟨s, hb, ho⟩⟩ hKm
            have hM : MarkAt W D := hKm
            obtain rfl : ys = aboveF ps v := hys
            clear hKm K13 KP13 OB13 OW13 hGot
            obtain ⟨ag, cg', rfl, _, _, atg, _, _⟩ := at_of_owns ho
            obtain ⟨_, _, hv1, _, _, atb, _, _⟩ := at_of_owns hBo
            cases hv1
            obtain ⟨_, _, hv2, _, _, atw, _, _⟩ := at_of_owns hWo
            cases hv2
            have cgc := hb.cell 0
            have R1 := Lib.hid (fun W' (h : Below w.heap.size w W') => rabove_xs a cap ps v W' (by omega) (HC.out.keep (w' := W') h) HX.out)
            rw [← ints_len] at cgc
            obtain ⟨us, hus⟩ : ∃ us, us = ints (aboveF ps v) := ⟨_, rfl⟩
            have hul : us.length ≤ 4 := by rw [hus, ints_len]; exact hN4
            rw [← hus] at atg cgc R1
            have q := fun W' a' b' ca' cb' (zs : List Int) (hz : zs.length ≤ 16) k1 k2 => same_calls a' b' ca' cb' zs zs W' (by omega) (by omega) k1 k2
            simp only [decide_true] at q
            have Q := Lib.hid q
            have hul16 : us.length ≤ 16 := by omega
            have Y0 : Box W gg 22 #[.slice ag us.length cg'] := by rw [hus, ints_len]; exact hb
            have X0 : FinS w W (.slice a ps.length cap) a6 a10 ag (i64s xs) (i64s us) W := ⟨hK, atb, atw, atg, Below.refl _ _⟩
            have hlen3 : decide ((3 : Int) ≤ (xs.length : Int) + 3) = true := decide_eq_true (by omega)
            have crc := hK.R.cell 0
            have frc := hK.R.frozen 0
            have cpc := hK.P.cell 0
            clear q hus ho hBo hWo hb hK atg atb atw
            go_wp2_with fail
            have X0d := X0.drew
            have Y0d : Box W.drew gg 22 #[.slice ag us.length cg'] := Y0
            go_region_held3 (fun W' => W'.cell? ⟨gg, 0, none⟩ = some (.slice ag us.length cg') ∧ W'.cell? ⟨w.heap.size, 0, none⟩ = some (.slice a ps.length cap) ∧ Below w.heap.size w W')
              (first | exact ⟨cgc, cpc, X0d.K.low⟩ | exact ⟨Y8.cell 0, X8.K.P.cell 0, X8.K.low⟩ | exact ⟨Y8.cell 0, X8.K.P.cell 0, (X8.drewN _).K.low⟩ | exact ⟨cgc, cpc, (X0.drewN _).K.low⟩ | exact ⟨((Y8.drewN _).far (p := ⟨w.heap.size + 1, 0, none⟩) (by simp; omega) _).cell 0, ((X8.drewN _).K.set true).P.cell 0, ((X8.drewN _).K.set true).low⟩)
              (first
                | (go_at_call 8; refine (R1.out _ (by go_split_ands; assumption)).mono ?_; rintro e w5' ⟨a8, c8, rfl, at8, bb⟩; have X8 := (first_fin X0 bb); have M8 := first_mark hM bb; have Y8 : Box w5' gg 22 #[.slice ag us.length cg'] := first_box Y0 bb; have cr8 := X8.K.R.cell 0; have fr8 := X8.K.R.frozen 0)
                | (go_at_call 12; refine (Q.out _ _ _ _ _ _ (by assumption) (by first | exact FinS.b (by first | exact X8.drewN _ | exact X8 | exact X0d | exact X0.drewN _) | exact FinS.g (by first | exact X8.drewN _ | exact X8)) (by first | exact FinS.c (by first | exact X8.drewN _ | exact X8 | exact X0d | exact X0.drewN _) | exact at8 | exact at8.drewN _)).mono ?_; rintro e w6' ⟨rfl, n6, rfl⟩))
            go_wp2_with fail
            all_goals
              refine leave_marks (B := w.heap.size) [D] _ (by simp; omega) (by simp) (by simp; exact MarkAt.keep (A := World.drewN _ _) M8 (KeepsOthers.setCell _ _ _)) (fun W' hb hx => ?_)
              have c6 := (hx _ _ _ ((X8.drewN _).K.set true).R).cell 0
              exact ⟨.bool true, by simp [results, Try.f5, go_sem, c6], rfl, ((X8.drewN _).K.set true).low.trans hb⟩
          case stop =>
            rintro D c pre W hD hpre h hK
            exact h.elim

theorem cells64 : Try.prog.cellsOf 3 = 1 := by kernel_rfl
theorem bytes64 : Try.prog.bytesOf 3 = 8 := by kernel_rfl
theorem i64_wf {x : Int} (h : (Lit.int .i64 x).wf = true) : I64 x := by
  simp [Lit.wf, IntKind.min, IntKind.max, IntKind.signed, IntKind.bits] at h
  exact h
theorem opened (H : Type) (enc : TypeId × Value → H) (W : World) (base : Nat) (args : Array Value) (ds : List (DataW H)) (p : List MemPlace)
    (hval : ∀ (j : Nat) t v, Try.f5.params[j]? = some t → args[j]? = some v → Value.okWide Try.prog W .any base t v)
    (hA : DataW.TrodAll enc Try.prog W 0 (fun _ => true) true Try.f5.params.toList args.toList ds p)
    (hr : ∀ x ∈ DataW.weightsEach Try.prog Try.f5.params.toList ds, x ≤ reachBytes)
    (hL : laidMetH Try.prog Rows.treeKeepsRow.laid W) :
    Calls Try.prog 5 args W fun e W' => e = .returned (.bool true) ∧ Below W.heap.size W W' := by
  rw [Try.params5] at hA hval hr
  have _ := hL
  obtain ⟨v0, vs0, d0, ds0, p0, q0, hargs, rfl, rfl, h0, r0⟩ := trodAll_cons hA
  obtain ⟨v1, vs1, d1, ds1, p1, q1, rfl, rfl, rfl, h1, r1⟩ := trodAll_cons r0
  obtain ⟨rfl, rfl, rfl⟩ := trodAll_nil r1
  obtain rfl : args = #[v0, v1] := by cases args; simp_all
  obtain ⟨a, xs, cap, rfl, hat, hw, hl, hm, hd⟩ := open_row Try.underlying22 Try.underlying3 cells64 (hval 0 22 v0 rfl rfl) h0
  obtain ⟨u, rfl, rfl, rfl, _⟩ := open_int Try.underlying3 (hval 1 3 v1 rfl rfl) h1
  have hreach := reach_slice (n := xs.length) (cap := cap) Try.underlying22 hd (fun x hx => hr x (by simp [DataW.weightsEach, hx]))
  rw [bytes64] at hreach
  exact walk a cap xs u W (by omega) hat (fun x hx => i64_wf (hw x hx))
end Go.Proofs.Ytmnhmlbpaebabaa.treeKeeps
