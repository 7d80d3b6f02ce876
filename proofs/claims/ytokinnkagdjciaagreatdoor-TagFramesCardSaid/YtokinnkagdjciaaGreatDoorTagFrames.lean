/- TagFrames: the walk, and the step from the law's arguments to it. Written by genframes.py. -/
import Derived.Test.YtokinnkagdjciaaGreatDoorTagRFrames
import Derived.Test.YtokinnkagdjciaaGreatDoorTagOpen
import Derived.Test.YtokinnkagdjciaaGreatDoorTagLaw
import Derived.Test.YtokinnkagdjciaaGreatDoorBaseFld
import Derived.LoopN
namespace Go.Proofs.YtokinnkagdjciaaGreatDoor.tagFrames
open Go.ChangeShapes Go.WideShapes Go.ChangeAt Go.RowKit Go.Shelf Go.Proofs.YtokinnkagdjciaaGreatDoor.Bas Go.Proofs.YtokinnkagdjciaaGreatDoor.FixpM Go.Proofs.YtokinnkagdjciaaGreatDoor.FixpW Go.Proofs.YtokinnkagdjciaaGreatDoor.DecW Go.Proofs.YtokinnkagdjciaaGreatDoor.FldW Go.Proofs.YtokinnkagdjciaaGreatDoor.TagM Go.Proofs.YtokinnkagdjciaaGreatDoor.TagW
attribute [local go_sem] Oper.semAt_some

/-- the variables of a call: where to stop, the result -/
structure Held (w W : World) (s : Int) (r : Bool) : Prop where
  sc : Box W w.heap.size 3 #[.int .i64 s]
  rs : Box W (w.heap.size + 1) 4 #[.bool r]
  low : Below w.heap.size w W
theorem held_new (w : World) (s : Int) : Held w ((w.alloc (.cells #[.int .i64 s] 3)).alloc (.cells #[.bool false] 4)) s false := by
  have b1 := Box.new w 3 #[.int .i64 s]
  have b2 := Box.new (w.alloc (.cells #[.int .i64 s] 3)) 4 #[.bool false]
  simp only [World.size_alloc] at b2
  exact ⟨b1.alloc _, b2, ((Below.refl _ _).alloc (Nat.le_refl _) _).alloc (by simp) _⟩
theorem Held.keep {w A B : World} {s : Int} {r : Bool} (h : Held w A s r) (hb : Below A.heap.size A B) : Held w B s r :=
  ⟨h.sc.keep hb, h.rs.keep hb, h.low.trans (hb.mono h.low.size)⟩
theorem Held.set {w A : World} {s : Int} {r : Bool} (h : Held w A s r) (b : Bool) : Held w (A.setCell ⟨w.heap.size + 1, 0, none⟩ (.bool b)) s b :=
  ⟨h.sc.far (by simp) _, h.rs.set 0 _, h.low.setCell (p := ⟨w.heap.size + 1, 0, none⟩) (by simp) _⟩
/-- what lies ready: all of it in the blocks of wz -/
structure Ready (w wz : World) (stop : Int) (g5 go : Nat) (lo hi : Nat) (aw : Option Addr) (cw : Nat) (v : Value) (bs : List UInt8) (xs : List (Value × Itm)) : Prop where
  held : Held w wz stop false
  want : Box wz g5 30 #[.slice aw xs.length cw]
  row : At wz aw (icells xs)
  items : ∀ x ∈ xs, HandT x wz
  kept : KeptT wz lo hi go v bs
  his : hi ≤ wz.heap.size
theorem Ready.keep {w wz W : World} {stop : Int} {g5 go lo hi : Nat} {aw : Option Addr} {cw : Nat} {v : Value} {bs : List UInt8} {xs : List (Value × Itm)} (h : Ready w wz stop g5 go lo hi aw cw v bs xs) (b : Below wz.heap.size wz W) : Ready w W stop g5 go lo hi aw cw v bs xs :=
  ⟨h.held.keep b, h.want.keep b, h.row.keep b, fun x hx => (h.items x hx).keep b, h.kept.below b h.his, Nat.le_trans h.his b.size⟩
theorem count_own (g : Nat) (t : TypeId) (B : Nat) : OwnFrom B (fun (pre : List (Value × Itm)) W => Box W g t #[.int .i64 (pre.length : Nat)]) :=
  fun _ _ _ _ hs hg hr => hs.grown hg (fun r e => (hr r e).2)
theorem not_pre {pre : List (Value × Itm)} {x : Value × Itm} {L : List Itm} (h : pre.length < L.length) (hx : x.2 ≠ L[pre.length]) : ¬ (pre ++ [x]).map (·.2) <+: L := by
  rintro ⟨r, e⟩
  apply hx
  have := congrArg (fun l => l[pre.length]?) e
  simp at this
  rw [List.getElem?_eq_getElem h] at this
  simpa using this
theorem item_at {W : World} {a : Option Addr} {xs : List (Value × Itm)} (h : At W a (icells xs)) (k : Nat) (hk : k < xs.length) : ∃ b off, a = some ⟨b, off, none⟩ ∧ W.cell? ⟨b, off + k * 2, none⟩ = some xs[k].1 ∧ W.cell? ⟨b, off + k * 2 + 1, none⟩ = some (.int .i64 xs[k].2.2) := by
  obtain ⟨h0, h1⟩ := icells_get hk
  obtain ⟨b, off, rfl, c0⟩ := h _ _ h0
  obtain ⟨_, _, e, c1⟩ := h _ _ h1
  cases e
  exact ⟨b, off, rfl, c0, by rw [Nat.add_assoc]; exact c1⟩
theorem eqIn_func_nil {P : Program} (d : Nat) (W : World) (t : TypeId) (s : TypeDesc) (f : Fn) (b c : Array Value) (h : P.underlying t = some s) (hs : ∃ a r v, s = .func a r v) : (Op.equalIn (d + 1) t (.func f b c) .nilFunc).run P W = .ok false W := by
  obtain ⟨a, r, v, rfl⟩ := hs
  simp [Op.equalIn, run_underlying h]
theorem seq_nil (W : World) (f : Fn) (b c : Array Value) : (binOp .eql 34 (.func f b c) .nilFunc).run Tryz.prog W = .ok (.bool false) W := by
  have h : (Op.equal 34 (.func f b c) .nilFunc).run Tryz.prog W = .ok false W := eqIn_func_nil 9999 W _ _ f b c Tryz.underlying34 ⟨_, _, _, rfl⟩
  simp only [binOp]
  simp [h]
attribute [local go_sem] seq_nil
theorem leave0 {P : Program} {F : Fence} {n : Nat} {fn : Func} {tmps : Array Value} {R : Ending → World → Prop} {W : World} (h : ∃ v, (results fn tmps).run P W = .ok v W ∧ R (.returned v) W) : LeavesInM F n P fn tmps R [] .returning W := h
set_option maxHeartbeats 4000000 in
set_option maxRecDepth 100000 in
theorem walk (bs : List UInt8) (a : Option Addr) (cap : Nat) (stop : Int) (w : World) (hbl : bs.length ≤ cap) (hb63 : bs.length ≤ 140737488351232) (hat : At w a (u8s bs)) (E : Env w) :
    Calls Tryz.prog 4 #[.slice a bs.length cap, .int .i64 stop] w fun e w' => e = .returned (.bool true) ∧ Below w.heap.size w w' := by
  have HE := Lib.hid E
  have HB := Lib.hid hat
  have C0 := Lib.hid (fun W (h : Env W) => wakeT_calls W h.pw)
  clear hat E
  refine (callsIn_wide (n := 9)).1 (callsIn_of_wp_marks Tryz.func4 rfl trivial ?_ rfl)
  refine wpIn_wide.2 ?_
  simp only [Tryz.ntmps4, List.size_toArray, List.length_cons, List.length_nil, Nat.reduceAdd, Nat.reduceSub, Array.replicate_succ, Array.replicate_zero, List.push_toArray, List.append_toArray, List.nil_append, List.cons_append]
  go_upto_region 1 with fail
  have X := held_new w stop
  generalize (w.alloc (.cells #[.int .i64 stop] 3)).alloc (.cells #[.bool false] 4) = w0 at X ⊢
  by_cases hb8 : 4096 < bs.length
  · have hbI : (4096 : Int) < (bs.length : Int) := by omega
    clear hb8
    go_upto_region 3 with (go_at_call 5; refine (C0.out _ (HE.out.keep X.low)).mono ?_; rintro e w1 ⟨rfl, b1⟩; have X1 := X.keep b1; clear b1 C0)
    have fr6 := X1.rs.frozen 0
    have cr6 := X1.rs.cell 0
    have HX1 := Lib.hid (X1.set true)
    go_wp2_with fail
    refine leave0 ⟨.bool true, ?_, rfl, HX1.out.low⟩
    have c6 := HX1.out.rs.cell 0
    simp [results, Tryz.f4, go_sem, c6]
  · have hbI : ¬ (4096 : Int) < (bs.length : Int) := by omega
    have FR := Lib.hid (fun W h E => rframes_calls bs a cap W (by omega) hbl h E)
    have FT := Lib.hid (fun W h => frames_calls a cap bs W (by omega) h)
    have RS := Lib.hid (fun W h E => rest_calls bs a cap W (by omega) hbl h E)
    go_upto_region 5 with (go_at_call 5; refine (C0.out _ (HE.out.keep X.low)).mono ?_; rintro e w1 ⟨rfl, b1⟩; have X1 := X.keep b1; clear b1 C0)
    clear X
    go_upto_region 6 with (go_at_call 9; refine (FR.out _ (HB.out.keep X1.low) (HE.out.keep X1.low)).mono ?_; rintro e w2 ⟨⟨xs, v2, rfl, hxs, own2, hand2⟩, b2⟩; have X2 := X1.keep b2; clear FR; obtain ⟨aw, cw, rfl, _, _, at2, _, _⟩ := at_of_owns own2)
    have B3 := (Below.refl w2.heap.size w2).alloc (Nat.le_refl _) (.cells #[.slice aw xs.length cw] 30)
    have W3 := Box.new w2 30 #[.slice aw xs.length cw]
    have X3 := X2.keep B3
    have at3 := at2.keep B3
    have hand3 : ∀ x ∈ xs, HandT x (w2.alloc (.cells #[.slice aw xs.length cw] 30)) := fun x hx => (hand2 x hx).keep B3
    clear own2 at2 hand2 b2 X1 X2 B3
    generalize w2.heap.size = g5 at *
    generalize w2.alloc (.cells #[.slice aw xs.length cw] 30) = w3 at *
    go_upto_region 7 with (go_at_call 10; refine (FT.out _ (HB.out.keep X3.low)).mono ?_; rintro e w4 ⟨go, v, rfl, K4, b4⟩; unfold seqT; have X4 := X3.keep b4; have W4 := W3.keep b4; clear FT)
    have at4 := at3.keep b4
    have hand4 : ∀ x ∈ xs, HandT x w4 := fun x hx => (hand3 x hx).keep b4
    have R4 : Ready w w4 stop g5 go w3.heap.size w4.heap.size aw cw v bs xs := ⟨X4, W4, at4, hand4, K4, Nat.le_refl _⟩
    clear X3 W3 at3 hand3 X4 W4 at4 hand4 K4 b4
    generalize w3.heap.size = lo at *
    generalize w4.heap.size = hi at *
    have hL := congrArg List.length hxs
    rw [List.length_map] at hL
    have hLle := (frames_len (s := bs)).1
    have hnil := fun W => seq_nil W (.func 25) #[] #[.pointer (some ⟨go, 0, none⟩)]
    go_upto_region 9 with (go_at_call 11; refine (RS.out _ (HB.out.keep R4.held.low) (HE.out.keep R4.held.low)).mono ?_; rintro e w5 ⟨rfl, b5⟩; have R5 := R4.keep b5)
    clear R4 b5 RS HB hnil
    go_wp2_with fail
    refine wp_loop_rounds 3 ?_
    rw [rounds_succ]
    go_wp2_with fail
    have G1 : Box (w5.alloc (.cells #[.int .i64 0] 3)) w5.heap.size 3 #[.int .i64 (0 : Nat)] := Box.new _ _ _
    have B1 := (Below.refl w5.heap.size w5).alloc (Nat.le_refl _) (.cells #[.int .i64 0] 3)
    have hz1 := B1.size
    have hg1 : w5.heap.size < (w5.alloc (.cells #[.int .i64 0] 3)).heap.size := by simp
    have RA1 := R5.keep B1
    have hlo1 := R5.held.low.size
    have hhi1 := R5.his
    have hrs1 := R5.held.rs.lt
    generalize w5.alloc (.cells #[.int .i64 0] 3) = wa1 at *
    refine wpIn_wide.1 (wpIn_rangeFunc_handsF (n := 9) (encs := encT) rfl (by decide) (gf := 25) (lb := #[.pointer (some ⟨go, 0, none⟩)]) rfl trivial (enters_of Tryz.func25 (by kernel_rfl) rfl)
      (frames_hands 8 (by decide) lo hi go v bs (by omega) w HE.out wa1 RA1.kept RA1.his RA1.held.low) KeepT.trans (KeepT.put (by omega) (by omega)) (KeepT.refl _ _ _) (Below.refl _ _) (fun _ => rfl) (own_handT _)
      (fun pre W => Below w5.heap.size w5 W ∧ Box W w5.heap.size 3 #[.int .i64 (pre.length : Nat)])
      (fun _ pre _ => ¬ pre.map (·.2) <+: (framesR bs).1)
      ((ownFrom_below (Nat.le_refl _) hz1).and (count_own _ _ _)) (fun c => own_pure (fun (pre : List (Value × Itm)) => ¬ pre.map (·.2) <+: (framesR bs).1) _) ⟨B1, G1⟩
      _ (by intro l x W K hK; unfold encT; gi_wp2; exact hK) ?body1 ?done1 ?stop1)
    case body1 =>
      rintro l pre x W ⟨hB, hG⟩ hx hlen
      have RW := R5.keep hB
      have cn := hG.cell 0
      have fn := hG.frozen 0
      have c5 := RW.want.cell 0
      have fr4 := RW.held.rs.frozen 0
      have cr4 := RW.held.rs.cell 0
      have hn : pre.length < xs.length := by omega
      obtain ⟨bw, ow, haw, i0, i1⟩ := item_at RW.row pre.length hn
      obtain ⟨ai, ci, hiv, him, hiat⟩ := RW.items _ (List.getElem_mem hn)
      have hy : (framesR bs).1[pre.length] = xs[pre.length].2 := by simp only [← hxs, List.getElem_map]
      have HNP := Lib.hid (fun (h : x.2 ≠ xs[pre.length].2) => not_pre (pre := pre) (x := x) (L := (framesR bs).1) hlen (by rw [hy]; exact h))
      rw [hiv] at i0
      generalize xs[pre.length] = y at *
      obtain ⟨yv, yfs, ye⟩ := y
      obtain ⟨xv, xfs, xe⟩ := x
      obtain ⟨ax, cx, hxv, hxm, hxat⟩ := hx
      simp only at hxv hiv hxat hiat i0 i1 HNP hxm him
      subst hxv
      subst haw
      have SM := Lib.hid (same_calls ax ai cx ci xfs yfs W (Nat.le_trans hxm (by decide)) (Nat.le_trans him (by decide)) hxat hiat)
      have HI0 := Lib.hid (fun w2 (b2 : Below W.heap.size W w2) => (b2.cell (World.block_lt_of_cell? W _ i0)).trans i0)
      have HI1 := Lib.hid (fun w2 (b2 : Below W.heap.size W w2) => (b2.cell (World.block_lt_of_cell? W _ i1)).trans i1)
      have hnI : ¬ (xs.length : Int) ≤ (pre.length : Int) := by omega
      have hzW := hB.size
      clear hxat hiat hiv hy
      by_cases hf : xfs = yfs
      · subst hf
        rw [decide_eq_true rfl] at SM
        by_cases he : xe = ye
        · subst he
          have heb : (xe != xe) = false := by simp
          gi_wp2_with (first | (refine ⟨trivial, ?_⟩; gi_at_call 8; refine (CallsIn.inRound l (callsIn_wide.2 SM.out)).mono ?_; rintro e w2 ⟨rfl, n2, hw2⟩; have b2 : Below W.heap.size W w2 := hw2 ▸ below_drewN (Below.refl _ _) n2; clear hw2; have d0 := HI0.out w2 b2; have d1 := HI1.out w2 b2; have dw := (RW.keep b2).want.cell 0; have G2 := hG.keep b2; have dn := G2.cell 0; have en := G2.frozen 0; have dr := (RW.keep b2).held.rs.cell 0; have er := (RW.keep b2).held.rs.frozen 0; clear i0 i1 cn fn c5 fr4 cr4))
          exact ⟨(keeps_below b2).trans (KeepsOthers.setCell _ _ _), ⟨(Span.below b2 (by omega)).trans (Span.set _ _ _ (.inr (by simp; omega))), (b2.mono (by omega)).trans ((Below.refl _ _).setCell (p := ⟨w5.heap.size, 0, none⟩) (by simp; omega) _)⟩, (hB.trans (b2.mono hzW)).setCell (p := ⟨w5.heap.size, 0, none⟩) (by simp) _, by have := G2.set 0 (.int .i64 ((pre.length : Int) + 1)); simpa using this⟩
        · have heb : (xe != ye) = true := by simpa using he
          have HX := Lib.hid (HNP.out (by intro h; injection h with h1 h2; exact he h2))
          gi_wp2_with (first | (refine ⟨trivial, ?_⟩; gi_at_call 8; refine (CallsIn.inRound l (callsIn_wide.2 SM.out)).mono ?_; rintro e w2 ⟨rfl, n2, hw2⟩; have b2 : Below W.heap.size W w2 := hw2 ▸ below_drewN (Below.refl _ _) n2; clear hw2; have d0 := HI0.out w2 b2; have d1 := HI1.out w2 b2; have dw := (RW.keep b2).want.cell 0; have G2 := hG.keep b2; have dn := G2.cell 0; have en := G2.frozen 0; have dr := (RW.keep b2).held.rs.cell 0; have er := (RW.keep b2).held.rs.frozen 0; clear i0 i1 cn fn c5 fr4 cr4))
          exact ⟨(keeps_below b2).trans (KeepsOthers.setCell _ _ _), HX.out⟩
      · rw [decide_eq_false hf] at SM
        have HX := Lib.hid (HNP.out (by intro h; injection h with h1 h2; exact hf h1))
        gi_wp2_with (first | (refine ⟨trivial, ?_⟩; gi_at_call 8; refine (CallsIn.inRound l (callsIn_wide.2 SM.out)).mono ?_; rintro e w2 ⟨rfl, n2, hw2⟩; have b2 : Below W.heap.size W w2 := hw2 ▸ below_drewN (Below.refl _ _) n2; clear hw2; have d0 := HI0.out w2 b2; have d1 := HI1.out w2 b2; have dw := (RW.keep b2).want.cell 0; have G2 := hG.keep b2; have dn := G2.cell 0; have en := G2.frozen 0; have dr := (RW.keep b2).held.rs.cell 0; have er := (RW.keep b2).held.rs.frozen 0; clear i0 i1 cn fn c5 fr4 cr4))
        exact ⟨(keeps_below b2).trans (KeepsOthers.setCell _ _ _), HX.out⟩
    case stop1 =>
      rintro D c pre W hD ⟨_, hp⟩ h hK
      exact absurd hp h
    case done1 =>
      rintro D1 ys W hD hys ⟨hB, hG⟩ hK
      have hyl := congrArg List.length hys
      rw [List.length_map] at hyl
      have R1n := R5.keep hB
      have cn := hG.cell 0
      have c5 := R1n.want.cell 0
      rw [show (ys.length : Nat) = xs.length by omega] at cn
      have hM1 : MarkAt W D1 := hK
      have hDl1 : D1 < W.heap.size := (Array.getElem?_eq_some_iff.1 hM1).1
      have hD1w : w.heap.size ≤ D1 := by omega
      clear hK hG hys hyl RA1 B1 G1 hB
      obtain ⟨w1n, rfl⟩ : ∃ x, x = W := ⟨W, rfl⟩
      go_wp2_with fail
      clear cn c5
      rw [rounds_succ]

      go_wp2_with fail
      have G2 : Box (w1n.alloc (.cells #[.int .i64 0] 3)) w1n.heap.size 3 #[.int .i64 (0 : Nat)] := Box.new _ _ _
      have B2 := (Below.refl w1n.heap.size w1n).alloc (Nat.le_refl _) (.cells #[.int .i64 0] 3)
      have hz2 := B2.size
      have hg2 : w1n.heap.size < (w1n.alloc (.cells #[.int .i64 0] 3)).heap.size := by simp
      have RA2 := R1n.keep B2
      have hlo2 := R1n.held.low.size
      have hhi2 := R1n.his
      have hrs2 := R1n.held.rs.lt
      generalize w1n.alloc (.cells #[.int .i64 0] 3) = wa2 at *
      refine wpIn_wide.1 (wpIn_rangeFunc_handsF (n := 9) (encs := encT) rfl (by decide) (gf := 25) (lb := #[.pointer (some ⟨go, 0, none⟩)]) rfl trivial (enters_of Tryz.func25 (by kernel_rfl) rfl)
        (frames_hands 8 (by decide) lo hi go v bs (by omega) w HE.out wa2 RA2.kept RA2.his RA2.held.low) KeepT.trans (KeepT.put (by omega) (by omega)) (KeepT.refl _ _ _) (Below.refl _ _) (fun _ => rfl) (own_handT _)
        (fun pre W => Below w1n.heap.size w1n W ∧ Box W w1n.heap.size 3 #[.int .i64 (pre.length : Nat)])
        (fun _ pre _ => ¬ pre.map (·.2) <+: (framesR bs).1)
        ((ownFrom_below (Nat.le_refl _) hz2).and (count_own _ _ _)) (fun c => own_pure (fun (pre : List (Value × Itm)) => ¬ pre.map (·.2) <+: (framesR bs).1) _) ⟨B2, G2⟩
        _ (by intro l x W K hK; unfold encT; gi_wp2; exact hK) ?body2 ?done2 ?stop2)
      case body2 =>
        rintro l pre x W ⟨hB, hG⟩ hx hlen
        have RW := R1n.keep hB
        have cn := hG.cell 0
        have fn := hG.frozen 0
        have c5 := RW.want.cell 0
        have fr4 := RW.held.rs.frozen 0
        have cr4 := RW.held.rs.cell 0
        have hn : pre.length < xs.length := by omega
        obtain ⟨bw, ow, haw, i0, i1⟩ := item_at RW.row pre.length hn
        obtain ⟨ai, ci, hiv, him, hiat⟩ := RW.items _ (List.getElem_mem hn)
        have hy : (framesR bs).1[pre.length] = xs[pre.length].2 := by simp only [← hxs, List.getElem_map]
        have HNP := Lib.hid (fun (h : x.2 ≠ xs[pre.length].2) => not_pre (pre := pre) (x := x) (L := (framesR bs).1) hlen (by rw [hy]; exact h))
        rw [hiv] at i0
        generalize xs[pre.length] = y at *
        obtain ⟨yv, yfs, ye⟩ := y
        obtain ⟨xv, xfs, xe⟩ := x
        obtain ⟨ax, cx, hxv, hxm, hxat⟩ := hx
        simp only at hxv hiv hxat hiat i0 i1 HNP hxm him
        subst hxv
        subst haw
        have SM := Lib.hid (same_calls ax ai cx ci xfs yfs W (Nat.le_trans hxm (by decide)) (Nat.le_trans him (by decide)) hxat hiat)
        have HI0 := Lib.hid (fun w2 (b2 : Below W.heap.size W w2) => (b2.cell (World.block_lt_of_cell? W _ i0)).trans i0)
        have HI1 := Lib.hid (fun w2 (b2 : Below W.heap.size W w2) => (b2.cell (World.block_lt_of_cell? W _ i1)).trans i1)
        have hnI : ¬ (xs.length : Int) ≤ (pre.length : Int) := by omega
        have hzW := hB.size
        clear hxat hiat hiv hy
        by_cases hf : xfs = yfs
        · subst hf
          rw [decide_eq_true rfl] at SM
          by_cases he : xe = ye
          · subst he
            have heb : (xe != xe) = false := by simp
            gi_wp2_with (first | (refine ⟨trivial, ?_⟩; gi_at_call 8; refine (CallsIn.inRound l (callsIn_wide.2 SM.out)).mono ?_; rintro e w2 ⟨rfl, n2, hw2⟩; have b2 : Below W.heap.size W w2 := hw2 ▸ below_drewN (Below.refl _ _) n2; clear hw2; have d0 := HI0.out w2 b2; have d1 := HI1.out w2 b2; have dw := (RW.keep b2).want.cell 0; have G2 := hG.keep b2; have dn := G2.cell 0; have en := G2.frozen 0; have dr := (RW.keep b2).held.rs.cell 0; have er := (RW.keep b2).held.rs.frozen 0; clear i0 i1 cn fn c5 fr4 cr4))
            exact ⟨(keeps_below b2).trans (KeepsOthers.setCell _ _ _), ⟨(Span.below b2 (by omega)).trans (Span.set _ _ _ (.inr (by simp; omega))), (b2.mono (by omega)).trans ((Below.refl _ _).setCell (p := ⟨w1n.heap.size, 0, none⟩) (by simp; omega) _)⟩, (hB.trans (b2.mono hzW)).setCell (p := ⟨w1n.heap.size, 0, none⟩) (by simp) _, by have := G2.set 0 (.int .i64 ((pre.length : Int) + 1)); simpa using this⟩
          · have heb : (xe != ye) = true := by simpa using he
            have HX := Lib.hid (HNP.out (by intro h; injection h with h1 h2; exact he h2))
            gi_wp2_with (first | (refine ⟨trivial, ?_⟩; gi_at_call 8; refine (CallsIn.inRound l (callsIn_wide.2 SM.out)).mono ?_; rintro e w2 ⟨rfl, n2, hw2⟩; have b2 : Below W.heap.size W w2 := hw2 ▸ below_drewN (Below.refl _ _) n2; clear hw2; have d0 := HI0.out w2 b2; have d1 := HI1.out w2 b2; have dw := (RW.keep b2).want.cell 0; have G2 := hG.keep b2; have dn := G2.cell 0; have en := G2.frozen 0; have dr := (RW.keep b2).held.rs.cell 0; have er := (RW.keep b2).held.rs.frozen 0; clear i0 i1 cn fn c5 fr4 cr4))
            exact ⟨(keeps_below b2).trans (KeepsOthers.setCell _ _ _), HX.out⟩
        · rw [decide_eq_false hf] at SM
          have HX := Lib.hid (HNP.out (by intro h; injection h with h1 h2; exact hf h1))
          gi_wp2_with (first | (refine ⟨trivial, ?_⟩; gi_at_call 8; refine (CallsIn.inRound l (callsIn_wide.2 SM.out)).mono ?_; rintro e w2 ⟨rfl, n2, hw2⟩; have b2 : Below W.heap.size W w2 := hw2 ▸ below_drewN (Below.refl _ _) n2; clear hw2; have d0 := HI0.out w2 b2; have d1 := HI1.out w2 b2; have dw := (RW.keep b2).want.cell 0; have G2 := hG.keep b2; have dn := G2.cell 0; have en := G2.frozen 0; have dr := (RW.keep b2).held.rs.cell 0; have er := (RW.keep b2).held.rs.frozen 0; clear i0 i1 cn fn c5 fr4 cr4))
          exact ⟨(keeps_below b2).trans (KeepsOthers.setCell _ _ _), HX.out⟩
      case stop2 =>
        rintro D c pre W hD ⟨_, hp⟩ h hK
        exact absurd hp h
      case done2 =>
        rintro D2 ys W hD hys ⟨hB, hG⟩ hK
        have hyl := congrArg List.length hys
        rw [List.length_map] at hyl
        have R2n := R1n.keep hB
        have cn := hG.cell 0
        have c5 := R2n.want.cell 0
        rw [show (ys.length : Nat) = xs.length by omega] at cn
        have hM2 : MarkAt W D2 := hK
        have hDl2 : D2 < W.heap.size := (Array.getElem?_eq_some_iff.1 hM2).1
        have hM1b : MarkAt W D1 := MarkAt.below hM1 hB hDl1
        have hne12 : D2 ≠ D1 := by omega
        have hD2w : w.heap.size ≤ D2 := by omega
        clear hK hG hys hyl RA2 B2 G2 hB
        obtain ⟨w2n, rfl⟩ : ∃ x, x = W := ⟨W, rfl⟩
        go_wp2_with fail
        clear cn c5
        rw [rounds_succ]

        go_wp2_with fail
        have G3 : Box (w2n.alloc (.cells #[.int .i64 0] 3)) w2n.heap.size 3 #[.int .i64 (0 : Nat)] := Box.new _ _ _
        have B3 := (Below.refl w2n.heap.size w2n).alloc (Nat.le_refl _) (.cells #[.int .i64 0] 3)
        have hz3 := B3.size
        have hg3 : w2n.heap.size < (w2n.alloc (.cells #[.int .i64 0] 3)).heap.size := by simp
        have RA3 := R2n.keep B3
        have hlo3 := R2n.held.low.size
        have hhi3 := R2n.his
        have hrs3 := R2n.held.rs.lt
        generalize w2n.alloc (.cells #[.int .i64 0] 3) = wa3 at *
        refine wpIn_wide.1 (wpIn_rangeFunc_handsF (n := 9) (encs := encT) rfl (by decide) (gf := 25) (lb := #[.pointer (some ⟨go, 0, none⟩)]) rfl trivial (enters_of Tryz.func25 (by kernel_rfl) rfl)
          (frames_hands 8 (by decide) lo hi go v bs (by omega) w HE.out wa3 RA3.kept RA3.his RA3.held.low) KeepT.trans (KeepT.put (by omega) (by omega)) (KeepT.refl _ _ _) (Below.refl _ _) (fun _ => rfl) (own_handT _)
          (fun pre W => (Below w2n.heap.size w2n W ∧ Box W w2n.heap.size 3 #[.int .i64 (pre.length : Nat)]) ∧ (pre = [] ∨ (pre.length : Int) < stop))
          (fun c pre W => (Below w2n.heap.size w2n W ∧ Box W w2n.heap.size 3 #[.int .i64 (pre.length : Nat)]) ∧ (c = .exit 4 ∧ stop ≤ (pre.length : Int) ∧ 1 ≤ pre.length ∧ (pre.length = 1 ∨ (pre.length : Int) - 1 < stop)))
          (((ownFrom_below (Nat.le_refl _) hz3).and (count_own _ _ _)).and (own_pure (fun (pre : List (Value × Itm)) => pre = [] ∨ (pre.length : Int) < stop) _))
          (fun c => ((ownFrom_below (Nat.le_refl _) hz3).and (count_own _ _ _)).and (own_pure (fun (pre : List (Value × Itm)) => c = .exit 4 ∧ stop ≤ (pre.length : Int) ∧ 1 ≤ pre.length ∧ (pre.length = 1 ∨ (pre.length : Int) - 1 < stop)) _))
          ⟨⟨B3, G3⟩, .inl rfl⟩
          _ (by intro l x W K hK; unfold encT; gi_wp2; exact hK) ?body3 ?done3 ?stop3)
        case body3 =>
          rintro l pre x W ⟨⟨hB, hG⟩, hs⟩ hx hlen
          have RW := R2n.keep hB
          have cn := hG.cell 0
          have fn := hG.frozen 0
          have c3 := RW.held.sc.cell 0
          have hzW := hB.size
          have HK := Lib.hid (KeepsOthers.setCell W ⟨w2n.heap.size, 0, none⟩ (.int .i64 ((pre.length : Int) + 1)))
          have HG := Lib.hid (hG.set 0 (.int .i64 ((pre.length : Int) + 1)))
          have HB2 := Lib.hid (hB.setCell (p := ⟨w2n.heap.size, 0, none⟩) (Nat.le_refl _) (.int .i64 ((pre.length : Int) + 1)))
          have HKT : Hid (KeepT w.heap.size lo hi W (W.setCell ⟨w2n.heap.size, 0, none⟩ (.int .i64 ((pre.length : Int) + 1)))) := ⟨Span.set _ _ _ (.inr (by simp; omega)), (Below.refl _ _).setCell (p := ⟨w2n.heap.size, 0, none⟩) (by simp; omega) _⟩
          have HS := Lib.hid hs
          clear hs hx
          by_cases hge : stop ≤ (pre.length : Int) + 1
          · have hd : decide (stop ≤ (pre.length : Int) + 1) = true := decide_eq_true hge
            gi_wp2
            exact ⟨HK.out, ⟨HB2.out, by have := HG.out; simpa using this⟩, rfl, by simp; omega, by simp, HS.out.elim (fun h => .inl (by rw [h]; rfl)) (fun h => .inr (by simp; omega))⟩
          · gi_wp2
            exact ⟨HK.out, HKT.out, ⟨HB2.out, by have := HG.out; simpa using this⟩, .inr (by simp; omega)⟩
        case done3 =>
          rintro D3 ys W hD hys ⟨⟨hB, hG⟩, hs⟩ hK
          have hyl := congrArg List.length hys
          rw [List.length_map] at hyl
          have RW := R2n.keep hB
          have cn := hG.cell 0
          rw [show (ys.length : Nat) = xs.length by omega] at cn
          have c5 := RW.want.cell 0
          have c3 := RW.held.sc.cell 0
          have er := RW.held.rs.frozen 0
          have dr := RW.held.rs.cell 0
          have hM3 : MarkAt W D3 := hK
          have hlast : (decide (stop < 1) || ((xs.length : Int) == min stop (xs.length : Int))) = true := by
            rcases hs with h | h
            · subst h; simp at hyl; simp; omega
            · simp; omega
          have HX1 := Lib.hid (RW.held.set true)
          have HM := Lib.hid (KeepsOthers.setCell W ⟨w.heap.size + 1, 0, none⟩ (.bool true))
          have hMM2 : MarkAt W D2 := MarkAt.below hM2 hB (by omega)
          have hMM1 : MarkAt W D1 := MarkAt.below hM1b hB (by omega)
          by_cases h1 : stop < 1
          · have h1d : decide (stop < 1) = true := decide_eq_true h1
            clear hlast
            go_wp2_with fail
            refine leave_marks (B := w.heap.size) [D3, D2, D1] _ (by simp; omega) (by simp; omega) (by simp; exact ⟨hM3.keep HM.out, MarkAt.keep hMM2 HM.out, MarkAt.keep hMM1 HM.out⟩) (fun W' hb hx => ?_)
            have c6 := (hx _ _ _ HX1.out.rs).cell 0
            exact ⟨.bool true, by simp [results, Tryz.f4, go_sem, c6], rfl, HX1.out.low.trans hb⟩
          · have h1d : decide (stop < 1) = false := decide_eq_false h1
            rw [h1d, Bool.false_or] at hlast
            have hlast2 := hlast
            rw [hL] at hlast2
            go_wp2_with fail
            refine leave_marks (B := w.heap.size) [D3, D2, D1] _ (by simp; omega) (by simp; omega) (by simp; exact ⟨hM3.keep HM.out, MarkAt.keep hMM2 HM.out, MarkAt.keep hMM1 HM.out⟩) (fun W' hb hx => ?_)
            have c6 := (hx _ _ _ HX1.out.rs).cell 0
            exact ⟨.bool true, by simp [results, Tryz.f4, go_sem, c6], rfl, HX1.out.low.trans hb⟩
        case stop3 =>
          rintro D3 c pre W hD ⟨_, hpre⟩ ⟨⟨hB, hG⟩, rfl, s1, s2, s3⟩ hK
          have hyl := hpre.length_le
          rw [List.length_map] at hyl
          have RW := R2n.keep hB
          have cn := hG.cell 0
          have c5 := RW.want.cell 0
          have c3 := RW.held.sc.cell 0
          have er := RW.held.rs.frozen 0
          have dr := RW.held.rs.cell 0
          have hM3 : MarkAt W D3 := hK
          have hplI : (pre.length : Int) ≤ (xs.length : Int) := by omega
          have hlast : (decide (stop < 1) || ((pre.length : Int) == min stop (xs.length : Int))) = true := by
            simp; omega
          refine wpIn_wide.2 ?_
          have HX1 := Lib.hid (RW.held.set true)
          have HM := Lib.hid (KeepsOthers.setCell W ⟨w.heap.size + 1, 0, none⟩ (.bool true))
          have hMM2 : MarkAt W D2 := MarkAt.below hM2 hB (by omega)
          have hMM1 : MarkAt W D1 := MarkAt.below hM1b hB (by omega)
          by_cases h1 : stop < 1
          · have h1d : decide (stop < 1) = true := decide_eq_true h1
            clear hlast
            go_wp2_with fail
            refine leave_marks (B := w.heap.size) [D3, D2, D1] _ (by simp; omega) (by simp; omega) (by simp; exact ⟨hM3.keep HM.out, MarkAt.keep hMM2 HM.out, MarkAt.keep hMM1 HM.out⟩) (fun W' hb hx => ?_)
            have c6 := (hx _ _ _ HX1.out.rs).cell 0
            exact ⟨.bool true, by simp [results, Tryz.f4, go_sem, c6], rfl, HX1.out.low.trans hb⟩
          · have h1d : decide (stop < 1) = false := decide_eq_false h1
            rw [h1d, Bool.false_or] at hlast
            have hlast2 := hlast
            rw [hL] at hlast2
            go_wp2_with fail
            refine leave_marks (B := w.heap.size) [D3, D2, D1] _ (by simp; omega) (by simp; omega) (by simp; exact ⟨hM3.keep HM.out, MarkAt.keep hMM2 HM.out, MarkAt.keep hMM1 HM.out⟩) (fun W' hb hx => ?_)
            have c6 := (hx _ _ _ HX1.out.rs).cell 0
            exact ⟨.bool true, by simp [results, Tryz.f4, go_sem, c6], rfl, HX1.out.low.trans hb⟩
theorem cells8 : Tryz.prog.cellsOf 5 = 1 := by kernel_rfl
theorem bytes8 : Tryz.prog.bytesOf 5 = 1 := by kernel_rfl
set_option maxRecDepth 100000 in
theorem opened (H : Type) (enc : TypeId × Value → H) (W : World) (base : Nat) (args : Array Value) (ds : List (DataW H)) (p : List MemPlace)
    (hval : ∀ (j : Nat) t v, Tryz.f4.params[j]? = some t → args[j]? = some v → Value.okWide Tryz.prog W .any base t v)
    (hA : DataW.TrodAll enc Tryz.prog W 0 (fun _ => true) true Tryz.f4.params.toList args.toList ds p)
    (hr : ∀ x ∈ DataW.weightsEach Tryz.prog Tryz.f4.params.toList ds, x ≤ reachBytes)
    (hL : laidMetH Tryz.prog Rows.tagFramesRow.laid W) (hS : W.ShapedOpen Tryz.prog) :
    Calls Tryz.prog 4 args W fun e W' => e = .returned (.bool true) ∧ Below W.heap.size W W' := by
  rw [Tryz.params4] at hA hval hr
  obtain ⟨v0, vs0, d0, ds0, p0, q0, hargs, rfl, rfl, h0, r0⟩ := trodAll_cons hA
  obtain ⟨v1, vs1, d1, ds1, p1, q1, rfl, rfl, rfl, h1, r1⟩ := trodAll_cons r0
  obtain ⟨rfl, rfl, rfl⟩ := trodAll_nil r1
  obtain rfl : args = #[v0, v1] := by cases args; simp_all
  obtain ⟨a, l, cap, rfl, hat, hl, hm, hd⟩ := open_u8 Tryz.underlying22 Tryz.underlying5 cells8 (hval 0 22 v0 rfl rfl) h0
  obtain ⟨z, rfl, _, _, _⟩ := open_int Tryz.underlying3 (hval 1 3 v1 rfl rfl) h1
  have hreach := reach_slice (n := l.length) (cap := cap) Tryz.underlying22 hd (fun x hx => hr x (weights_each (i := 0) rfl rfl x hx))
  rw [bytes8] at hreach
  exact walk l a cap z W hl (by omega) hat (env_laid hL hS)
end Go.Proofs.YtokinnkagdjciaaGreatDoor.tagFrames
