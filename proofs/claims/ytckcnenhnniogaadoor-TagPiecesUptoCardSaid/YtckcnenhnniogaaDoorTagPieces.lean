/- TagPieces: the walk, and the step from the law's arguments to it. Written by genpieces.py. -/
import Derived.Test.YtckcnenhnniogaaDoorTagSeqT
import Derived.Test.YtckcnenhnniogaaDoorTagOpen
import Derived.Test.YtckcnenhnniogaaDoorTagLaw
import Derived.Test.YtckcnenhnniogaaDoorTagPiecesGot
import Derived.Test.YtckcnenhnniogaaDoorBaseFld
import Derived.Test.YtckcnenhnniogaaDoorBaseNest
import Derived.Test.YtckcnenhnniogaaDoorBaseStage
set_option linter.unusedSimpArgs false
set_option linter.unusedVariables false
namespace Go.Proofs.YtckcnenhnniogaaDoor.tagPieces
open Go.ChangeShapes Go.WideShapes Go.ChangeAt Go.RowKit Go.Shelf Go.Proofs.YtckcnenhnniogaaDoor.Bas Go.Proofs.YtckcnenhnniogaaDoor.FixpM Go.Proofs.YtckcnenhnniogaaDoor.FixpW Go.Proofs.YtckcnenhnniogaaDoor.DecW Go.Proofs.YtckcnenhnniogaaDoor.FldW Go.Proofs.YtckcnenhnniogaaDoor.TagM Go.Proofs.YtckcnenhnniogaaDoor.TagW
attribute [local go_sem] Oper.semAt_some

theorem elem64 : Elem Tryd.prog 23 3 (.int .i64 0) 1 8 := ⟨Tryd.underlying23, by kernel_rfl, rfl, by decide⟩
theorem elemFs : Elem Tryd.prog 22 26 (.slice none 0 0) 1 24 := ⟨Tryd.underlying22, by kernel_rfl, rfl, by decide⟩
theorem wpListIn_append_at {F : Fence} {nF : Nat} {P : Program} {w : World} {ops : Array Oper} {rest : List Oper} {o : Oper} {a : Act} {Q : Exit → Act → World → Prop} (hgd : o.guard = none) (s x : Operand)
    {t e : TypeId} {z : Value} {size bytes : Nat} (E : Elem P t e z size bytes)
    (ho : o.op = .call { callee := .builtin .append, args := #[s, x], argTypes := #[t, t] })
    (base : Nat) (v : Value) (n : Nat) (xs : List Value) (hs : a.eval s = v) (hown : w.ownsRow base e size v n xs)
    (A : Option Addr) (m c : Nat) (news : List Value) (hx : a.eval x = .slice A m c) (hl : news.length = m * size) (hat : At w A news) (h1 : ∀ u ∈ news, u.oneCell' = true)
    (h63 : n + m ≤ maxLen) (hbytes : (n + m) * bytes ≤ 140737488355328) (hbase : base ≤ w.heap.size)
    (h : ∀ v' w', w'.ownsRow base e size v' (n + m) (xs ++ news) → w.grownBy w' v.ownBlock → (v'.ownBlock = v.ownBlock ∨ v'.ownBlock = some w.heap.size) → wpListIn F nF P ops Q rest (a.put o.dst v') w') :
    wpListIn F nF P ops Q (o :: rest) a w := by
  refine wpListIn_plain hgd fun K hK => ?_
  obtain ⟨v', w', hrun, h2, h3, h4⟩ := run_append_at (P := P) w E base o.type v n xs hown A m c news hl hat h1 h63 hbytes hbase
  unfold Oper.wpIn
  refine ⟨by simp [Oper.about, ho, resolve, Target.leads, Sem.run_pure], ?_⟩
  rw [Oper.semAt_plain F _ _ (by rw [ho]; intro c hc'; cases hc')]
  simp [execOp, ho, resolve, invoke, builtin, hs, hx, hrun, Result.andThen]
  exact hK _ _ (h v' w' h2 h3 h4)
/-- a loop, what its rounds lead to under a name of its own -/
theorem wp_loop_k {P : Program} {Q : Exit → Act → World → Prop} {a : Act} {w : World} {c : Code} (I : Act → World → Prop) (μ : Act → Nat) (h0 : I a w)
    (round : ∀ a w (K : Act → World → Prop), Hid (∀ a' w', I a' w' → μ a' < μ a → K a' w') → I a w → c.wp P (Exit.then K Q) a w) : (Code.loop c).wp P Q a w :=
  wp_loop I (fun a _ => μ a) h0 (fun a w hI => round a w _ (Lib.hid fun _ _ h1 h2 => ⟨h1, h2⟩) hI)
def marks (Ds : List Nat) : List Deferred := Ds.map fun D => { target := .collected D, args := #[] }
/-- between two pieces -/
def PcR (w1 : World) (gs : List (List Fld)) (A : List UInt8) (ao : Option Addr) (co : Nat) (cut : List Int) (ac : Option Addr) (cc G : Nat) (u12 u13 u52 : Value) (ds : List Deferred) (W : World) : Prop :=
  ∃ (k j p : Nat) (al : Option Addr) (cl : Nat) (left : List UInt8) (VS : List FV) (ag : Option Addr) (cg : Nat) (Ds : List Nat), u52 = .int .i64 k ∧ u13 = .int .i64 p ∧ u12 = .slice al left.length cl ∧ ds = marks Ds ∧ left.length ≤ cl ∧
    Side w1 A ao co cut ac cc al left Ds W ∧ Nums gs A cut k j p left VS ∧ GotAt w1.heap.size G ag cg VS W
theorem last_cut {cs cut : List Int} {x : Int} (h : cut = cs ++ [x]) {k : Nat} (hk : k < cut.length) (e : k + 1 = cut.length) : cut[k] = x := by
  subst h
  obtain rfl : k = cs.length := by simp at e; omega
  simp
/-- a region that ends, and no other way -/
def onlyN (R : Act → World → Prop) : Exit → Act → World → Prop
  | .normal, a, w => R a w
  | _, _, _ => False
theorem stage_region_n {P : Program} {Q : Exit → Act → World → Prop} {id : Nat} {a : Act} {w : World} {l : List Oper} (t : Nat) (S : World → Prop) (hm : P.follows .mixedOrders = true) (h : Stage P l.toArray (onlyN (Q .normal)) S t l.length (Array.replicate l.length false) a w.drew) : (Code.region id l.toArray true).wp P Q a w :=
  wp_mono (stage_region t S hm h) (fun e a w h => by cases e <;> first | exact h | exact h.elim)
theorem at_cut {W : World} {ao : Option Addr} {A : List UInt8} {co p q : Nat} (h : At W ao (u8s A)) (hc : A.length ≤ co) (hpq : p ≤ q) (hq : q ≤ A.length) : At W (if co = p then ao else Option.map (fun x => x.add p) ao) (u8s ((A.drop p).take (q - p))) := by
  by_cases e : p = q
  · subst e
    rw [Nat.sub_self, List.take_zero]
    exact At.nil _ _
  · obtain ⟨b, off, rfl, _⟩ := h 0 _ (u8s_get A 0 (by omega))
    rw [if_neg (by omega)]
    have h2 : (Option.map (fun x : Addr => x.add p) (some ⟨b, off, none⟩)) = some ⟨b, off + p, none⟩ := by
      simp only [Option.map_some, Addr.add]
      split <;> simp_all
    rw [h2]
    have := At.take (At.drop h p) (q - p)
    rwa [show (u8s (A.drop p)).take (q - p) = u8s ((A.drop p).take (q - p)) by simp [u8s, List.map_take]] at this
/-- a list of fields in memory -/
def FsAt (x : FV) (W : World) : Prop := ∃ a cap, x.1 = .slice a x.2.length cap ∧ x.2.length ≤ 5864062014806 ∧ At W a (fcells x.2)
theorem FsAt.keep {x : FV} {A B : World} (h : FsAt x A) (b : Below A.heap.size A B) : FsAt x B := by
  obtain ⟨a, cap, h1, h2, h3⟩ := h
  exact ⟨a, cap, h1, h2, h3.keep b⟩
/-- those that can be frames -/
def valids (gs : List (List Fld)) : List (List Fld) := gs.filter fun f => decide (validR f = 0)
theorem valids_ok (gs : List (List Fld)) : ∀ g ∈ valids gs, validR g = 0 := by
  intro g hg
  simpa using (List.mem_filter.1 hg).2
theorem valids_yes {L : List FV} {k : Nat} (hk : k < L.length) (h : validR L[k].2 = 0) : valids ((L.take (k + 1)).map (·.2)) = valids ((L.take k).map (·.2)) ++ [L[k].2] := by
  rw [List.take_succ_eq_append_getElem hk, List.map_append]
  unfold valids
  rw [List.filter_append]
  simp [h]
theorem valids_no {L : List FV} {k : Nat} (hk : k < L.length) (h : validR L[k].2 ≠ 0) : valids ((L.take (k + 1)).map (·.2)) = valids ((L.take k).map (·.2)) := by
  rw [List.take_succ_eq_append_getElem hk, List.map_append]
  unfold valids
  rw [List.filter_append]
  simp [h]
theorem catF_snoc (gs : List (List Fld)) (g : List Fld) : catF (gs ++ [g]) = catF gs ++ frameB (bodyB g) := by rw [catF_append, catF_cons, catF_nil, List.append_nil]
theorem vcells_get {W : World} {a : Option Addr} {L : List FV} (h : At W a (L.map (·.1))) (k : Nat) (hk : k < L.length) : ∃ b off, a = some ⟨b, off, none⟩ ∧ W.cell? ⟨b, off + k, none⟩ = some L[k].1 :=
  h k _ (by rw [List.getElem?_map, List.getElem?_eq_getElem hk]; rfl)
theorem at_cutT {W : World} {t : TypeId} {ao : Option Addr} {A : List UInt8} {co p q : Nat} (h : AtT W t ao (u8s A)) (hc : A.length ≤ co) (hpq : p ≤ q) (hq : q ≤ A.length) : AtT W t (if co = p then ao else Option.map (fun x => x.add p) ao) (u8s ((A.drop p).take (q - p))) := by
  refine ⟨at_cut h.at_ hc hpq hq, fun x hx => ?_⟩
  split at hx
  · exact h.ty x hx
  · cases ao with
    | none => cases hx
    | some y =>
      simp only [Option.map_some] at hx
      injection hx with hx
      obtain ⟨cs, sp, e⟩ := h.ty y rfl
      refine ⟨cs, sp, ?_⟩
      rw [← hx, show (y.add p).block = y.block by unfold Addr.add; split <;> rfl]
      exact e
def Loc (lo hi : Nat) (v : Value) : Prop := ∀ g, v.ownBlock = some g → g < lo ∨ hi ≤ g
/-- while a piece's frames are read -/
def Rd (w1 w8 : World) (G lo hi : Nat) (VS : List FV) (pre : List (Value × Itm)) (W : World) : Prop :=
  KeepG w1.heap.size w8 W ∧ ∃ ag cg, GotAt w1.heap.size G ag cg (VS ++ pre.map fv) W ∧ Loc lo hi (.slice ag (VS ++ pre.map fv).length cg)
theorem own_rd {w1 w8 : World} {G lo hi : Nat} {VS : List FV} (hb : w1.heap.size ≤ w8.heap.size) : OwnFrom w8.heap.size (Rd w1 w8 G lo hi VS) :=
  fun _ _ _ _ ⟨hk, ag, cg, hg, hl⟩ hgr hr => ⟨hk.walk hb (Nat.le_refl _) hgr (fun r e => (hr r e).1), ag, cg, hg.walk hgr (fun r e => (hr r e).2), hl⟩
theorem valids_len (gs : List (List Fld)) : (valids gs).length ≤ gs.length := List.length_filter_le _ _
theorem chk_step {L : List FV} {gs : List (List Fld)} (h : gs = valids (L.map (·.2))) {k : Nat} (hk : k < L.length) (hv : validR L[k].2 = 0) : gs[(valids ((L.take k).map (·.2))).length]? = some L[k].2 := by
  have e : L.map (·.2) = (L.take (k + 1)).map (·.2) ++ (L.drop (k + 1)).map (·.2) := by rw [← List.map_append, List.take_append_drop]
  have e2 : gs = valids ((L.take (k + 1)).map (·.2)) ++ valids ((L.drop (k + 1)).map (·.2)) := by rw [h, e]; unfold valids; rw [List.filter_append]
  rw [e2, valids_yes hk hv, List.append_assoc, List.getElem?_append_right (Nat.le_refl _), Nat.sub_self]
  rfl
/-- while what was read is compared -/
def ChkR (L : List FV) (W3 : World) (i n : Value) (wr : World) : Prop :=
  ∃ k m : Nat, k ≤ L.length ∧ i = .int .i64 k ∧ n = .int .i64 m ∧ Hid (m = (valids ((L.take k).map (·.2))).length) ∧ Hid (Below W3.heap.size W3 wr)
theorem gs_at {VS : List FV} {gs : List (List Fld)} (h : VS.map (·.2) = gs) {n : Nat} {f : List Fld} (hg : gs[n]? = some f) : ∃ hn : n < VS.length, (VS[n]).2 = f := by
  rw [← h, List.getElem?_map] at hg
  cases hv : VS[n]? with
  | none => rw [hv] at hg; cases hg
  | some x =>
    obtain ⟨hn, e⟩ := List.getElem?_eq_some_iff.1 hv
    rw [hv] at hg
    exact ⟨hn, by rw [e]; simpa using hg⟩
/-- between two lists of fields -/
def AllR (L : List FV) (w1 : World) (i out : Value) (wr : World) : Prop :=
  ∃ (k : Nat) (ao : Option Addr) (n co : Nat), k ≤ L.length ∧ i = .int .i64 k ∧ out = .slice ao n co ∧ n ≤ k * 4200 ∧ Hid (n = (catF (valids ((L.take k).map (·.2)))).length) ∧ Hid (wr.ownsRow w1.heap.size 5 1 (.slice ao n co) n (u8s (catF (valids ((L.take k).map (·.2)))))) ∧ Hid (Below w1.heap.size w1 wr) ∧ Hid (∀ x ∈ L.take k, sumL x.2 ≤ 32768)
theorem enc_cases (fs : List Fld) : ((encodeR fs).2 = 0 → validR fs = 0 ∧ (encodeR fs).1 = frameB (bodyB fs)) ∧ ((encodeR fs).2 ≠ 0 → validR fs ≠ 0) ∧ (encodeR fs).1.length ≤ 4200 := by
  unfold encodeR
  by_cases hv : validR fs = 0
  · rw [if_pos hv]
    exact ⟨fun _ => ⟨hv, rfl⟩, fun h => absurd rfl h, frame_len _ (valid_iff.1 hv).2⟩
  · rw [if_neg hv]
    exact ⟨fun h => absurd h hv, fun _ => hv, by simp⟩
theorem leave0 {P : Program} {F : Fence} {n : Nat} {fn : Func} {tmps : Array Value} {R : Ending → World → Prop} {W : World} (h : ∃ v, (results fn tmps).run P W = .ok v W ∧ R (.returned v) W) : LeavesInM F n P fn tmps R [] .returning W := h
theorem own_to {W : World} {b n : Nat} {e : TypeId} {v : Value} {X Y : List UInt8} {m : Nat} (h : W.ownsRow b e 1 v m (u8s X ++ u8s Y)) (hm : m = n) : W.ownsRow b e 1 v n (u8s (X ++ Y)) := by
  subst hm
  have e1 : u8s (X ++ Y) = u8s X ++ u8s Y := by simp [u8s]
  rw [e1]; exact h
set_option maxHeartbeats 4000000 in
set_option maxRecDepth 100000 in
theorem walk (L : List FV) (cs : List Int) (a ac : Option Addr) (cap cc : Nat) (w : World) (hl : L.length ≤ 5864062014806) (hok : ∀ x ∈ L, ∀ f ∈ x.2, f.2.length ≤ 140737488351232) (hL : ∀ x ∈ L, FsAt x w) (hat : At w a (L.map (·.1))) (hcl : cs.length ≤ 17592186043904) (hcc : cs.length ≤ cc) (hac : At w ac (i64s cs)) (E : Env w) :
    Calls Tryd.prog 3 #[.slice a L.length cap, .slice ac cs.length cc] w fun e w' => e = .returned (.bool true) ∧ Below w.heap.size w w' := by
  have C0 := Lib.hid (fun W (h : Env W) => wakeT_calls W h.pw)
  have R1 := Box.new w 4 #[.bool false]
  have B1 := (Below.refl w.heap.size w).alloc (Nat.le_refl _) (.cells #[.bool false] 4)
  have hz1 : w.heap.size < (w.alloc (.cells #[.bool false] 4)).heap.size := by simp
  refine (callsIn_wide (n := 9)).1 (callsIn_of_wp_marks Tryd.func3 rfl trivial ?_ rfl)
  refine wpIn_wide.2 ?_
  simp only [Tryd.ntmps3, List.size_toArray, List.length_cons, List.length_nil, Nat.reduceAdd, Nat.reduceSub, Array.replicate_succ, Array.replicate_zero, List.push_toArray, List.append_toArray, List.nil_append, List.cons_append]
  go_upto_region 1 with fail
  have HL := Lib.hid (fun x hx => (hL x hx).keep B1)
  have HA := Lib.hid (hat.keep B1)
  have HC := Lib.hid (hac.keep B1)
  have HE := Lib.hid (E.keep B1)
  have HLow := Lib.hid B1
  have HOk := Lib.hid hok
  clear hL hat hac E B1 hok
  generalize w.alloc (.cells #[.bool false] 4) = w1 at *
  by_cases h50 : 50 < L.length
  · have h50I : (50 : Int) < (L.length : Int) := by omega
    clear h50
    go_upto_region 4 with (go_at_call 4; refine (C0.out _ HE.out).mono ?_; rintro e w2 ⟨rfl, b2⟩)
    have R2 := R1.keep b2
    have er := R2.frozen 0
    have dr := R2.cell 0
    have HX := Lib.hid (R2.set 0 (.bool true))
    have HW := Lib.hid ((HLow.out.trans (b2.mono (Nat.le_of_lt hz1))).setCell (p := ⟨w.heap.size, 0, none⟩) (Nat.le_refl _) (.bool true))
    go_wp2_with fail
    refine leave0 ⟨.bool true, ?_, rfl, HW.out⟩
    have c6 := HX.out.cell 0
    simp at c6
    simp [results, Tryd.f3, go_sem, c6]
  have h50I : ¬ (50 : Int) < (L.length : Int) := by omega
  go_upto_region 5 with (go_at_call 4; refine (C0.out _ HE.out).mono ?_; rintro e w2 ⟨rfl, b2⟩)
  clear C0
  go_wp2_with fail
  go_loopw [27, 5] (fun i o wr => AllR L w1 i o wr) (fun i _ _ => L.length - (intOf i).toNat)
  case atStart => exact ⟨0, none, 0, 0, Nat.zero_le _, rfl, rfl, Nat.zero_le _, rfl, World.ownsRow_nil _ _ _ _, b2, fun x hx => (List.not_mem_nil hx).elim⟩
  case round =>
    clear b2
    obtain ⟨k, ao, n, co, hk, rfl, rfl, hn, HN, HO, HB, HS⟩ := hrel
    by_cases hlt : k < L.length
    · obtain ⟨b, off, rfl, c0⟩ := vcells_get (HA.out.keep HB.out) k hlt
      obtain ⟨fa, fc, hv, hfl, hfat⟩ := (HL.out _ (List.getElem_mem hlt)).keep HB.out
      have hfok := HOk.out _ (List.getElem_mem hlt)
      have HYes := Lib.hid (fun h => valids_yes hlt h)
      have HNo := Lib.hid (fun h => valids_no hlt h)
      have HSn := Lib.hid (show sumL L[k].2 ≤ 32768 → ∀ x ∈ L.take (k + 1), sumL x.2 ≤ 32768 by
        intro h x hx
        rw [List.take_succ_eq_append_getElem hlt] at hx
        rcases List.mem_append.1 hx with hx | hx
        · exact HS.out x hx
        · rw [List.mem_singleton.1 hx]; exact h)
      generalize L[k] = x at *
      obtain ⟨xv, fs⟩ := x
      simp only at c0 hv hfl hfat hfok HYes HNo HSn
      subst hv
      have C1 := Lib.hid (fun W h => long_calls fs fa fc W (by omega) hfok h)
      have HF := Lib.hid hfat
      have hR1 := R1.keep HB.out
      clear HS hfat hfok
      by_cases hbig : 32768 < sumL fs
      · rw [decide_eq_true hbig] at C1
        clear hbig HYes HNo HSn
        go_upto_region 10 with (go_at_call 5; refine (C1.out _ HF.out).mono ?_; rintro e w3 ⟨rfl, b3⟩)
        have R3 := hR1.keep b3
        have er := R3.frozen 0
        have dr := R3.cell 0
        have HX := Lib.hid (R3.set 0 (.bool true))
        have hz2 := HB.out.size
        have HW := Lib.hid (((HLow.out.trans (HB.out.mono (Nat.le_of_lt hz1))).trans (b3.mono (by omega))).setCell (p := ⟨w.heap.size, 0, none⟩) (Nat.le_refl _) (.bool true))
        go_wp2_with fail
        refine leave0 ⟨.bool true, ?_, rfl, HW.out⟩
        have c6 := HX.out.cell 0
        simp at c6
        simp [results, Tryd.f3, go_sem, c6]
      · rw [decide_eq_false hbig] at C1
        have HSn2 := Lib.hid (HSn.out (by omega))
        have hsl := sumL_len fs
        have E1 := fun W h hp => encode_calls fs fa fc W (by omega) (by omega) h hp
        obtain ⟨h1, h2, h3⟩ := enc_cases fs
        generalize encodeR fs = er at *
        obtain ⟨F, fe⟩ := er
        simp only at E1 h1 h2 h3
        have E1 := Lib.hid E1
        clear HSn hbig hsl hR1
        go_upto_region 12 with (first
          | (go_at_call 5; refine (C1.out _ HF.out).mono ?_; rintro e w3 ⟨rfl, b3⟩; have B3 := HB.out.trans (b3.mono HB.out.size))
          | (go_at_call 6; refine (E1.out _ (HF.out.keep b3) (HE.out.pw.keep B3)).mono ?_; rintro e w4 ⟨va, rfl, owna, b4⟩; have B4 := B3.trans (b4.mono B3.size)))
        obtain ⟨fa2, fc2, rfl, hfc, hfm, hfat2⟩ := owna.at_
        have HO4 := Lib.hid (owns_below HO.out (b3.trans (b4.mono b3.size)))
        clear C1 E1 HF HO b3 b4 B3 owna
        by_cases hfe : fe = 0
        · subst hfe
          obtain ⟨hv, hF⟩ := h1 rfl
          have HY := Lib.hid (HYes.out hv)
          have hnF : n + F.length ≤ (k + 1) * 4200 := by omega
          have HFq := Lib.hid hF
          clear h1 h2 HYes HNo hv hF
          go_wp2_with (at_builtin; refine wpList_append_at _ rfl (.tmp 40) (.tmp 41) elem8 rfl w1.heap.size (.slice ao n co) n _ rfl HO4.out fa2 F.length fc2 (u8s F) rfl (by rw [u8s_len]; omega) hfat2 (one_u8 F) (by unfold maxLen; omega) (by omega) B4.size ?_; intro v5 w5 own5 bel5 _ _; obtain ⟨a5, c5, rfl, _, _, _, _, _⟩ := at_of_owns own5)
          go_roundw
          case rel => exact ⟨k + 1, a5, n + F.length, c5, by omega, by go_num, rfl, hnF, by rw [HY.out, catF_snoc, List.length_append, ← HFq.out, ← HN.out]; rfl, by rw [HY.out, catF_snoc, ← HFq.out]; exact own_to own5 rfl, B4.trans bel5, HSn2.out⟩
          case measure => simp [intOf]; omega
        · have hv := h2 hfe
          have HNn := Lib.hid (HNo.out hv)
          have hfb : (fe == 0) = false := by simpa using hfe
          clear h1 h2 HYes HNo hv
          go_wp2_with fail
          go_roundw
          case rel => exact ⟨k + 1, ao, n, co, by omega, by go_num, rfl, by omega, by rw [HNn.out]; exact HN.out, by rw [HNn.out]; exact HO4.out, B4, HSn2.out⟩
          case measure => simp [intOf]; omega
    · obtain rfl : k = L.length := by omega
      rw [List.take_length] at HN HO HS
      obtain ⟨gs, hgs⟩ : ∃ gs, gs = valids (L.map (·.2)) := ⟨_, rfl⟩
      rw [← hgs] at HN HO
      have hgv := valids_ok (L.map (·.2))
      rw [← hgs] at hgv
      have HGV := Lib.hid hgv
      have HGS := Lib.hid hgs
      obtain ⟨A, hA⟩ : ∃ A, A = catF gs := ⟨_, rfl⟩
      rw [← hA] at HN HO
      have HAll := Lib.hid hA
      clear hgs hgv hA hk
      have hcA : A.length ≤ 210000 := by have := HN.out; omega
      have hnA := HN.out
      clear HN
      subst hnA
      go_upto_region 19 with fail
      have G0 := Box.new wr 22 #[.slice none 0 0]
      have b0 := (Below.refl wr.heap.size wr).alloc (Nat.le_refl _) (.cells #[.slice none 0 0] 22)
      have HO0 := Lib.hid (owns_below HO.out b0)
      have HB0 := Lib.hid (HB.out.trans (b0.mono HB.out.size))
      have hzr := HB.out.size
      have hzG : wr.heap.size < (wr.alloc (.cells #[.slice none 0 0] 22)).heap.size := by simp
      clear HO HB b0
      obtain ⟨G, hG⟩ : ∃ G, G = wr.heap.size := ⟨_, rfl⟩
      rw [← hG] at G0 hzr hzG ⊢
      clear hG
      generalize wr.alloc (.cells #[.slice none 0 0] 22) = w3 at *
      clear wr
      have hz3 := HB0.out.size
      go_upto_region 20 with (first
        | (at_builtin; refine wpList_append_at _ rfl (.tmp 44) (.tmp 45) elem64 rfl w1.heap.size (.slice (some ⟨w3.heap.size, 0, none⟩) 0 0) 0 [] rfl (owns_empty w3 _ _ _ hz3) ac cs.length cc (i64s cs) rfl (by rw [i64s_len]; omega) ((HC.out.keep HB0.out).keep ((Below.refl _ _).alloc (Nat.le_refl _) _)) (one_i64 cs) (by unfold maxLen; omega) (by omega) (by simp; omega) ?_; intro v4 w4 own4 bel4 g4 ob4; simp only [Nat.zero_add, List.nil_append] at own4; have B4 := ((Below.refl w3.heap.size w3).alloc (Nat.le_refl _) (.cells #[] 3)).grown g4 (by simp) (by intro k e; simp [Value.ownBlock] at e; omega); have KB4 := B4.size)
        | (at_builtin; refine wpList_append_at _ rfl (.tmp 46) (.tmp 49) elem64 rfl w1.heap.size v4 cs.length (i64s cs) rfl (own4.alloc _) (some ⟨w4.heap.size, 0, none⟩) 1 1 [.int .i64 A.length] rfl rfl (at_alloc w4 #[.int .i64 A.length] _ _) (by simp [Value.oneCell']) (by unfold maxLen; omega) (by omega) (by simp; omega) ?_; intro v5 w5 own5 bel5 g5 ob5; obtain ⟨ac5, cc5, rfl, _⟩ := at_of_owns own5))
      have B5 := (B4.alloc KB4 (.cells #[.int .i64 A.length] 3)).grown g5 (by simp; omega) (by intro k e; rcases ob4 with h | h <;> rw [e] at h <;> simp [Value.ownBlock] at h <;> omega)
      have HG5 : GotAt w1.heap.size G none 0 [] w5 := ⟨G0.keep B5, World.ownsRow_nil _ _ _ _, fun x hx => (List.not_mem_nil hx).elim⟩
      obtain ⟨cut, hcut⟩ : ∃ cut, cut = cs ++ [(A.length : Int)] := ⟨_, rfl⟩
      have hcl2 : cut.length = cs.length + 1 := by rw [hcut]; simp
      have HS5 : Side w1 A ao co cut ac5 cc5 none [] [] w5 := ⟨HB0.out.trans (B5.mono hz3), owns_below HO0.out B5, by rw [hcl2, hcut]; have := own5; simpa [i64s] using this, AtT.nil, fun D hD => (List.not_mem_nil hD).elim, List.nodup_nil⟩
      have HN5 : Nums gs A cut 0 0 0 [] [] := ⟨by simp, Nat.zero_le _, by simp [catF_nil], Nat.zero_le _, Nat.zero_le _, fun e => by omega⟩
      clear own4 bel4 g4 ob4 B4 KB4 own5 bel5 g5 ob5 B5 HO0 HB0 hz3 G0
      rw [show (cs.length : Int) + 1 = (cut.length : Int) by omega, show cs.length + 1 = cut.length by omega]
      refine wp_loop_k (fun a' w' => ∃ (u2 u3 u6 u7 u8 u9 u12 u13 u14 u15 u16 u17 u18 u19 u20 u21 u22 u23 u24 u25 u26 u27 u28 u29 u30 u31 u32 u33 u34 u35 u36 u37 u38 u39 u40 u41 u42 u43 u44 u45 u46 u47 u48 u49 u52 u53 u54 u55 u56 u57 u58 u59 u60 u61 u62 u63 u64 u65 u66 u67 u68 u69 u70 u71 u72 u73 u74 u75 u76 u77 u78 u79 u80 u81 u82 u83 u84 u85 u86 u87 u88 u89 u90 u91 u92 u93 u94 u95 u96 u97 u98 u99 u100 u101 u102 u103 u104 u105 u106 u107 u108 u109 u110 u111 u112 u113 u114 u115 u116 u117 u118 u119 u120 u121 u122 u123 u124 u125 : Value) (ds : List Deferred), PcR w1 gs A ao co cut ac5 cc5 G u12 u13 u52 ds w' ∧ a' = ⟨((.slice a L.length cap) :: (.slice ac cs.length cc) :: u2 :: u3 :: (.pointer (some ⟨w.heap.size, 0, none⟩)) :: (.slice ao A.length co) :: u6 :: u7 :: u8 :: u9 :: (.int .i64 0) :: (.pointer (some ⟨G, 0, none⟩)) :: u12 :: u13 :: u14 :: u15 :: u16 :: u17 :: u18 :: u19 :: u20 :: u21 :: u22 :: u23 :: u24 :: u25 :: u26 :: u27 :: u28 :: u29 :: u30 :: u31 :: u32 :: u33 :: u34 :: u35 :: u36 :: u37 :: u38 :: u39 :: u40 :: u41 :: u42 :: u43 :: u44 :: u45 :: u46 :: u47 :: u48 :: u49 :: (.slice ac5 cut.length cc5) :: (.int .i64 cut.length) :: u52 :: u53 :: u54 :: u55 :: u56 :: u57 :: u58 :: u59 :: u60 :: u61 :: u62 :: u63 :: u64 :: u65 :: u66 :: u67 :: u68 :: u69 :: u70 :: u71 :: u72 :: u73 :: u74 :: u75 :: u76 :: u77 :: u78 :: u79 :: u80 :: u81 :: u82 :: u83 :: u84 :: u85 :: u86 :: u87 :: u88 :: u89 :: u90 :: u91 :: u92 :: u93 :: u94 :: u95 :: u96 :: u97 :: u98 :: u99 :: u100 :: u101 :: u102 :: u103 :: u104 :: u105 :: u106 :: u107 :: u108 :: u109 :: u110 :: u111 :: u112 :: u113 :: u114 :: u115 :: u116 :: u117 :: u118 :: u119 :: u120 :: u121 :: u122 :: u123 :: u124 :: u125 :: []).toArray, ds⟩) (fun a' => cut.length - (intOf (a'.tmps.getD 52 undef)).toNat) ?_ ?_
      · (repeat apply Exists.intro)
        refine ⟨?_, rfl⟩
        exact ⟨0, 0, 0, none, 0, [], [], none, 0, [], rfl, rfl, rfl, rfl, Nat.le_refl _, HS5, HN5, HG5⟩
      clear HS5 HN5 HG5
      have HCl := Lib.hid hcl2
      have HLast := Lib.hid (fun (k : Nat) (hk : k < cut.length) (e : k + 1 = cut.length) => last_cut hcut hk e)
      clear hcl2 hcut hlt
      have HSum := HS
      clear HS
      intro a' wr K HK hI
      obtain ⟨u2, hI⟩ := hI
      obtain ⟨u3, hI⟩ := hI
      obtain ⟨u6, hI⟩ := hI
      obtain ⟨u7, hI⟩ := hI
      obtain ⟨u8, hI⟩ := hI
      obtain ⟨u9, hI⟩ := hI
      obtain ⟨u12, hI⟩ := hI
      obtain ⟨u13, hI⟩ := hI
      obtain ⟨u14, hI⟩ := hI
      obtain ⟨u15, hI⟩ := hI
      obtain ⟨u16, hI⟩ := hI
      obtain ⟨u17, hI⟩ := hI
      obtain ⟨u18, hI⟩ := hI
      obtain ⟨u19, hI⟩ := hI
      obtain ⟨u20, hI⟩ := hI
      obtain ⟨u21, hI⟩ := hI
      obtain ⟨u22, hI⟩ := hI
      obtain ⟨u23, hI⟩ := hI
      obtain ⟨u24, hI⟩ := hI
      obtain ⟨u25, hI⟩ := hI
      obtain ⟨u26, hI⟩ := hI
      obtain ⟨u27, hI⟩ := hI
      obtain ⟨u28, hI⟩ := hI
      obtain ⟨u29, hI⟩ := hI
      obtain ⟨u30, hI⟩ := hI
      obtain ⟨u31, hI⟩ := hI
      obtain ⟨u32, hI⟩ := hI
      obtain ⟨u33, hI⟩ := hI
      obtain ⟨u34, hI⟩ := hI
      obtain ⟨u35, hI⟩ := hI
      obtain ⟨u36, hI⟩ := hI
      obtain ⟨u37, hI⟩ := hI
      obtain ⟨u38, hI⟩ := hI
      obtain ⟨u39, hI⟩ := hI
      obtain ⟨u40, hI⟩ := hI
      obtain ⟨u41, hI⟩ := hI
      obtain ⟨u42, hI⟩ := hI
      obtain ⟨u43, hI⟩ := hI
      obtain ⟨u44, hI⟩ := hI
      obtain ⟨u45, hI⟩ := hI
      obtain ⟨u46, hI⟩ := hI
      obtain ⟨u47, hI⟩ := hI
      obtain ⟨u48, hI⟩ := hI
      obtain ⟨u49, hI⟩ := hI
      obtain ⟨u52, hI⟩ := hI
      obtain ⟨u53, hI⟩ := hI
      obtain ⟨u54, hI⟩ := hI
      obtain ⟨u55, hI⟩ := hI
      obtain ⟨u56, hI⟩ := hI
      obtain ⟨u57, hI⟩ := hI
      obtain ⟨u58, hI⟩ := hI
      obtain ⟨u59, hI⟩ := hI
      obtain ⟨u60, hI⟩ := hI
      obtain ⟨u61, hI⟩ := hI
      obtain ⟨u62, hI⟩ := hI
      obtain ⟨u63, hI⟩ := hI
      obtain ⟨u64, hI⟩ := hI
      obtain ⟨u65, hI⟩ := hI
      obtain ⟨u66, hI⟩ := hI
      obtain ⟨u67, hI⟩ := hI
      obtain ⟨u68, hI⟩ := hI
      obtain ⟨u69, hI⟩ := hI
      obtain ⟨u70, hI⟩ := hI
      obtain ⟨u71, hI⟩ := hI
      obtain ⟨u72, hI⟩ := hI
      obtain ⟨u73, hI⟩ := hI
      obtain ⟨u74, hI⟩ := hI
      obtain ⟨u75, hI⟩ := hI
      obtain ⟨u76, hI⟩ := hI
      obtain ⟨u77, hI⟩ := hI
      obtain ⟨u78, hI⟩ := hI
      obtain ⟨u79, hI⟩ := hI
      obtain ⟨u80, hI⟩ := hI
      obtain ⟨u81, hI⟩ := hI
      obtain ⟨u82, hI⟩ := hI
      obtain ⟨u83, hI⟩ := hI
      obtain ⟨u84, hI⟩ := hI
      obtain ⟨u85, hI⟩ := hI
      obtain ⟨u86, hI⟩ := hI
      obtain ⟨u87, hI⟩ := hI
      obtain ⟨u88, hI⟩ := hI
      obtain ⟨u89, hI⟩ := hI
      obtain ⟨u90, hI⟩ := hI
      obtain ⟨u91, hI⟩ := hI
      obtain ⟨u92, hI⟩ := hI
      obtain ⟨u93, hI⟩ := hI
      obtain ⟨u94, hI⟩ := hI
      obtain ⟨u95, hI⟩ := hI
      obtain ⟨u96, hI⟩ := hI
      obtain ⟨u97, hI⟩ := hI
      obtain ⟨u98, hI⟩ := hI
      obtain ⟨u99, hI⟩ := hI
      obtain ⟨u100, hI⟩ := hI
      obtain ⟨u101, hI⟩ := hI
      obtain ⟨u102, hI⟩ := hI
      obtain ⟨u103, hI⟩ := hI
      obtain ⟨u104, hI⟩ := hI
      obtain ⟨u105, hI⟩ := hI
      obtain ⟨u106, hI⟩ := hI
      obtain ⟨u107, hI⟩ := hI
      obtain ⟨u108, hI⟩ := hI
      obtain ⟨u109, hI⟩ := hI
      obtain ⟨u110, hI⟩ := hI
      obtain ⟨u111, hI⟩ := hI
      obtain ⟨u112, hI⟩ := hI
      obtain ⟨u113, hI⟩ := hI
      obtain ⟨u114, hI⟩ := hI
      obtain ⟨u115, hI⟩ := hI
      obtain ⟨u116, hI⟩ := hI
      obtain ⟨u117, hI⟩ := hI
      obtain ⟨u118, hI⟩ := hI
      obtain ⟨u119, hI⟩ := hI
      obtain ⟨u120, hI⟩ := hI
      obtain ⟨u121, hI⟩ := hI
      obtain ⟨u122, hI⟩ := hI
      obtain ⟨u123, hI⟩ := hI
      obtain ⟨u124, hI⟩ := hI
      obtain ⟨u125, hI⟩ := hI
      obtain ⟨ds, hR, ha⟩ := hI
      subst ha
      obtain ⟨k, j, p, al, cl, left, VS, ag, cg, Ds, rfl, rfl, rfl, rfl, hlc, HS, HN, HG⟩ := hR
      by_cases hlt : k < cut.length
      · have hltI : (k : Int) < (cut.length : Int) := by omega
        have hkb : k < 17592186043905 := by have := HCl.out; omega
        obtain ⟨bc, oc, hac, cc0⟩ := (AtT.own HS.cuts).at_ k (.int .i64 cut[k]) (by simp [i64s, hlt])
        subst hac
        have hlast : k + 1 = cut.length → cut[k] = (A.length : Int) := HLast.out k hlt
        generalize cut[k] = c at *
        have hAp := HN.ple
        by_cases hcp : c < (p : Int)
        · have HN' := HN.stay hlt (fun e => by have := hlast e; omega)
          have HN := Lib.hid HN'
          clear hlast HN'
          go_wp2_with fail
          refine HK.out _ _ ?_ ?_
          · (repeat apply Exists.intro)
            refine ⟨?_, rfl⟩
            exact ⟨k + 1, j, p, al, cl, left, VS, ag, cg, Ds, by go_num, rfl, rfl, rfl, hlc, HS, HN.out, HG⟩
          · simp [intOf]; omega
        by_cases hcA2 : (A.length : Int) < c
        · have HN' := HN.stay hlt (fun e => by have := hlast e; omega)
          have HN := Lib.hid HN'
          clear hlast HN'
          go_wp2_with fail
          refine HK.out _ _ ?_ ?_
          · (repeat apply Exists.intro)
            refine ⟨?_, rfl⟩
            exact ⟨k + 1, j, p, al, cl, left, VS, ag, cg, Ds, by go_num, rfl, rfl, rfl, hlc, HS, HN.out, HG⟩
          · simp [intOf]; omega
        obtain ⟨q, rfl⟩ : ∃ q : Nat, c = (q : Int) := ⟨c.toNat, by omega⟩
        have hpq : p ≤ q := by omega
        have hqA : q ≤ A.length := by omega
        obtain ⟨m, left', hfr, hll, hdr, hnx⟩ := HN.step HGV.out HAll.out hlt hpq hqA (fun e => by have := hlast e; omega)
        have HN0 := Lib.hid HN
        have HVS : Hid (VS.length ≤ gs.length) := by have := HN.len.1; have := HN.jle; exact (show VS.length ≤ gs.length by omega)
        have HNx := Lib.hid hnx
        have HFr := Lib.hid hfr
        have HDr := Lib.hid hdr
        have HLL := Lib.hid hll
        clear hnx hfr hdr hll hlast HN
        go_upto_region 23 with fail
        have hoo := at_of_owns HS.all
        obtain ⟨ao', co', e1, _, hAco, _, _, hnone⟩ := hoo
        injection e1 with e1 _ e2
        subst e1 e2
        have hqc : q ≤ co := by omega
        have HLf := Lib.hid HS.left
        have HPc := Lib.hid (at_cut (AtT.own HS.all).at_ hAco hpq hqA)
        have hz := HS.low.size
        have hlA := HN0.out.len.2
        refine stage_region_n 8 (fun W => True) (by kernel_rfl) ?_
        skip
        refine' stage_take (i := 1) _ rfl (by kernel_rfl) (by kernel_rfl) (by kernel_rfl) (by kernel_rfl) (fun _ _ _ h => h) True.intro _ (fun W hW => _) _
        rotate_left
        focus (go_simp; done)
        focus (go_simp; first | done | (with_reducible rfl))
        simp only [Act.put, List.setIfInBounds_toArray, List.set_cons_zero, List.set_cons_succ]
        refine' stage_take (i := 3) _ rfl (by kernel_rfl) (by kernel_rfl) (by kernel_rfl) (by kernel_rfl) (fun _ _ _ h => h) True.intro _ (fun W hW => _) _
        rotate_left
        focus (go_simp; done)
        focus (go_simp; first | done | (with_reducible rfl))
        simp only [Act.put, List.setIfInBounds_toArray, List.set_cons_zero, List.set_cons_succ]
        refine' stage_take (i := 4) _ rfl (by kernel_rfl) (by kernel_rfl) (by kernel_rfl) (by kernel_rfl) (fun _ _ _ h => h) True.intro _ (fun W hW => _) _
        rotate_left
        focus (go_simp; done)
        focus (go_simp; first | done | (with_reducible rfl))
        simp only [Act.put, List.setIfInBounds_toArray, List.set_cons_zero, List.set_cons_succ]
        refine' stage_take (i := 5) _ rfl (by kernel_rfl) (by kernel_rfl) (by kernel_rfl) (by kernel_rfl) (fun _ _ _ h => h) True.intro _ (fun W hW => _) _
        rotate_left
        focus (go_simp; done)
        focus (go_simp; first | done | (with_reducible rfl))
        simp only [Act.put, List.setIfInBounds_toArray, List.set_cons_zero, List.set_cons_succ]
        refine' stage_take (i := 6) _ rfl (by kernel_rfl) (by kernel_rfl) (by kernel_rfl) (by kernel_rfl) (fun _ _ _ h => h) True.intro _ (fun W hW => _) _
        rotate_left
        focus (go_simp; done)
        focus (go_simp; first | done | (with_reducible rfl))
        simp only [Act.put, List.setIfInBounds_toArray, List.set_cons_zero, List.set_cons_succ]
        refine stage_only (i := 0) rfl (by kernel_rfl) ?_ (fun K hK => ?_)
        focus (go_simp; done)
        go_simp
        skip
        refine hK.out _ _ (fun _ => True.intro) ?_
        clear hK K
        try simp only [Act.put, List.setIfInBounds_toArray, List.set_cons_zero, List.set_cons_succ]
        refine stage_only (i := 2) rfl (by kernel_rfl) ?_ (fun K hK => ?_)
        focus (go_simp; done)
        refine wp_append_at (.tmp 65) (.tmp 66) elem8 rfl wr.heap.size (.slice (some ⟨wr.heap.size, 0, none⟩) 0 0) 0 [] rfl (owns_empty wr _ _ _ (Nat.le_refl _)) al left.length cl (u8s left) rfl (by rw [u8s_len]; omega) (show At (wr.alloc (.cells #[] 5)) al (u8s left) from HLf.out.at_.keep ((Below.refl _ _).alloc (Nat.le_refl _) _)) (one_u8 left) (by unfold maxLen; omega) (by omega) (by simp) ?_
        intro v2 w6 own2 bel2 g2 ob2
        simp only [Nat.zero_add, List.nil_append] at own2
        have B6 : Below wr.heap.size wr w6 := (below_drewN ((Below.refl wr.heap.size wr).alloc (Nat.le_refl _) (.cells #[] 5)) 1).trans bel2
        clear g2 ob2 bel2
        skip
        refine hK.out _ _ (fun _ => True.intro) ?_
        clear hK K
        try simp only [Act.put, List.setIfInBounds_toArray, List.set_cons_zero, List.set_cons_succ]
        refine stage_only (i := 7) rfl (by kernel_rfl) ?_ (fun K hK => ?_)
        focus (go_simp; done)
        refine wp_append_at (.tmp 67) (.tmp 71) elem8 rfl wr.heap.size v2 left.length (u8s left) rfl own2 (if co = p then ao else Option.map (fun x : Addr => x.add p) ao) (q - p) (co - p) (u8s ((A.drop p).take (q - p))) rfl (by rw [u8s_len, List.length_take, List.length_drop]; omega) (HPc.out.keep B6) (one_u8 _) (by unfold maxLen; omega) (by omega) B6.size ?_
        intro v3 w7 own3 bel3 g3 ob3
        have B7 := B6.trans bel3
        obtain ⟨a7, c7, rfl, _⟩ := at_of_owns own3
        clear g3 ob3 bel3 own2
        skip
        refine hK.out _ _ (fun _ => True.intro) ?_
        clear hK K
        try simp only [Act.put, List.setIfInBounds_toArray, List.set_cons_zero, List.set_cons_succ]
        refine stage_only (i := 8) rfl (by kernel_rfl) ?_ (fun K hK => ?_)
        focus (go_simp; done)
        go_simp
        refine hK.out _ _ (fun h => absurd h (by decide)) ?_
        clear hK K
        try simp only [Act.put, List.setIfInBounds_toArray, List.set_cons_zero, List.set_cons_succ]
        refine stage_end (by kernel_rfl) ?_
        dsimp only [onlyN]
        clear HPc
        generalize (if co = p then ao else Option.map (fun x : Addr => x.add p) ao) = ap at *
        have hlen2 : (left ++ (A.drop p).take (q - p)).length = left.length + (q - p) := by rw [List.length_append, List.length_take, List.length_drop]; omega
        have own7 : w7.ownsRow wr.heap.size 5 1 (.slice a7 (left.length + (q - p)) c7) (left.length + (q - p)) (u8s (left ++ (A.drop p).take (q - p))) := own_to own3 rfl
        rw [← hlen2] at own7 ⊢
        have hl7 : (left ++ (A.drop p).take (q - p)).length ≤ 210000 := by omega
        generalize left ++ (A.drop p).take (q - p) = lf at *
        have S7o := HS.keep (KeepG.below B7 hz)
        have S7 : Side w1 A ao co cut (some ⟨bc, oc, none⟩) cc5 a7 lf Ds w7 := ⟨S7o.low, S7o.all, S7o.cuts, AtT.own own7, S7o.marks, S7o.nodup⟩
        have G7 := HG.keep B7
        have hc7 : lf.length ≤ c7 := by obtain ⟨_, _, e, _, h, _⟩ := at_of_owns own7; cases e; exact h
        have FT := Lib.hid (fun W h => frames_calls a7 c7 lf W (by omega) h)
        clear S7o own7 own3 HS HG HLf B6 B7 hlen2 hlA hlc cc0 hqc hAco hnone hz HN0
        go_wp2_with (go_at_call 7; refine (FT.out _ S7.left.at_).mono ?_; rintro e w8 ⟨go, v, rfl, K8, b8⟩; unfold seqT)
        clear FT
        have hz7 := S7.low.size
        have S8 := S7.keep (KeepG.below b8 hz7)
        have G8 := G7.keep b8
        have hz8 := b8.size
        have hG7 := G7.box.lt
        have L8 : Loc w7.heap.size w8.heap.size (.slice ag VS.length cg) := fun g hg => .inl (G7.own.lt g hg).2
        have hgl : gs.length ≤ 50 := by rw [HGS.out]; have := valids_len (L.map (·.2)); rw [List.length_map] at this; omega
        have hfl : (framesR lf).1.length ≤ 50 := by rw [HFr.out]; simp; omega
        have hVS : VS.length ≤ 50 := by have := HVS.out; omega
        clear S7 G7 b8
        generalize hlo : w7.heap.size = lo at *
        generalize hhi : w8.heap.size = hi at *
        clear hlo
        refine wpIn_wide.1 (wpIn_rangeFunc_handsF (n := 9) (encs := encT) rfl (by decide) (gf := 16) (lb := #[.pointer (some ⟨go, 0, none⟩)]) rfl trivial (enters_of Tryd.func16 (by kernel_rfl) rfl)
          (frames_hands 8 (by decide) lo hi go v lf (by omega) w1 HE.out w8 K8 (by omega) S8.low) KeepT.trans (KeepT.put (by omega) (by omega)) (KeepT.refl _ _ _) (Below.refl _ _) (fun _ => rfl) (own_handT _)
          (Rd w1 w8 G lo hi VS) (fun _ pre _ => ∃ x ∈ pre, x.2.2 ≠ 0) (own_rd (by omega)) (fun c => own_pure (fun (pre : List (Value × Itm)) => ∃ x ∈ pre, x.2.2 ≠ 0) _)
          ⟨KeepG.refl _ _, ag, cg, by simpa using G8, by simpa using L8⟩
          _ (by intro l x W K hK; unfold encT; gi_wp2; exact hK) ?body ?done ?stop)
        case body =>
          rintro l pre x W ⟨hK, ag2, cg2, hG2, hL2⟩ hx hlen
          have R4 := R1.below (S8.low.trans hK.low) hz1
          have c4 := R4.cell 0
          have f4 := R4.frozen 0
          have c11 := hG2.box.cell 0
          have f11 := hG2.box.frozen 0
          have hGW := hK.low.size
          obtain ⟨xv, xfs, xe⟩ := x
          by_cases he : xe = 0
          · subst he
            obtain ⟨ax, cx, hxv, hxm, hxat⟩ := hx
            simp only [fv] at hxv hxm hxat
            subst hxv
            have hx2 : FsT (.slice ax xfs.length cx, xfs) W := ⟨ax, cx, rfl, hxm, hxat⟩
            have hP0 := fun v' w2 own2 g2 ob2 => got_push (lo := lo) (hi := hi) (x := (.slice ax xfs.length cx, xfs)) (v' := v') (w2 := w2) hG2 hx2 hzr (by omega) (by omega) (by omega) hL2 own2 g2 ob2
            have HP0 := Lib.hid hP0
            have hn2 : (VS ++ pre.map fv).length ≤ 100 := by simp; omega
            clear hP0 R4 hxm hxat hx2
            generalize hVP : VS ++ pre.map fv = VP at *
            gi_wp2_with (gi_at_builtin; refine wpListIn_append_at rfl (.tmp 80) (.tmp 82) elemFs rfl w1.heap.size (.slice ag2 VP.length cg2) VP.length (VP.map (·.1)) rfl (hG2.own.alloc _) (some ⟨W.heap.size, 0, none⟩) 1 1 [.slice ax xfs.length cx] rfl rfl (at_alloc W #[.slice ax xfs.length cx] _ _) (by simp [Value.oneCell']) (by unfold maxLen; omega) (by omega) (by simp; omega) ?_; intro v2 w2 own2 g2 ob2; obtain ⟨a2, c2, rfl, hB2, hP⟩ := HP0.out v2 w2 own2 g2 ob2; have cb := hB2.cell 0; have fb := hB2.frozen 0; clear hB2 c11 f11)
            exact ⟨hP.others, ⟨hP.span, hP.keep.low⟩, hK.trans hP.keep, a2, c2, by rw [List.map_append, ← List.append_assoc, hVP]; exact hP.got, by rw [List.map_append, ← List.append_assoc, hVP, List.length_append]; exact hP.loc⟩
          · have heb : (xe != 0) = true := by simpa using he
            gi_wp2
            exact ⟨KeepsOthers.setCell _ _ _, _, List.mem_append_right _ (List.mem_singleton.2 rfl), he⟩
        case stop =>
          rintro D c pre W hD ⟨_, hp⟩ ⟨x, hx, h0⟩ hK
          exfalso
          have := hp.subset (List.mem_map_of_mem hx)
          rw [HFr.out] at this
          obtain ⟨f, _, e⟩ := List.mem_map.1 this
          exact h0 (congrArg Prod.snd e).symm
        case done =>
          rintro D ys W hD hys ⟨hK, ag2, cg2, hG2, hL2⟩ hMk
          have S9 := S8.keep hK
          have hDl : D < W.heap.size := (Array.getElem?_eq_some_iff.1 hMk).1
          have hDn : D ∉ Ds := fun h => by have := (S8.marks D h).2.1; omega
          have hM : MarkAt W D := hMk
          rw [HFr.out] at hys
          have N9 := Lib.hid (HNx.out ys hys)
          obtain ⟨mm, hmm⟩ : ∃ mm : Nat, mm = lf.length - left'.length := ⟨_, rfl⟩
          have hmI : (lf.length : Int) - (left'.length : Int) = (mm : Int) := by have := HLL.out; omega
          have hml : mm ≤ lf.length := by omega
          have hmL : lf.length - mm = left'.length := by have := HLL.out; omega
          have HLA := Lib.hid (at_cutT S9.left hc7 hml (Nat.le_refl _))
          rw [List.take_of_length_le (by rw [List.length_drop]; omega), hmm, HDr.out, ← hmm] at HLA
          have RC := Lib.hid (rest_calls lf a7 c7 W (by omega) hc7 S9.left.at_ (HE.out.keep S9.low))
          rw [HFr.out] at RC
          have hzW := S9.low.size
          have hD1 : w1.heap.size ≤ D := by omega
          clear hmm hys hMk HNx HFr HDr HLL hD hgl hfl hVS hL2 hK L8 G8 K8 HVS HGV
          by_cases hcm : c7 = mm
          · subst hcm
            rw [if_pos rfl] at HLA
            go_wp2_with (go_at_call 8; refine RC.out.mono ?_; rintro e w10 ⟨rfl, b10⟩)
            have S10o := S9.keep (KeepG.below b10 hzW)
            have S10 : Side w1 A ao co cut (some ⟨bc, oc, none⟩) cc5 a7 left' (D :: Ds) w10 := ⟨S10o.low, S10o.all, S10o.cuts, HLA.out.keep b10, fun D' hD' => by
              rcases List.mem_cons.1 hD' with rfl | h
              · exact ⟨hD1, Nat.lt_of_lt_of_le hDl b10.size, hM.below b10 hDl⟩
              · exact S10o.marks D' h, List.nodup_cons.2 ⟨hDn, S10o.nodup⟩⟩
            refine HK.out _ _ ?_ ?_
            · (repeat apply Exists.intro)
              refine ⟨?_, rfl⟩
              exact ⟨k + 1, j + m, q, a7, 0, left', VS ++ ys.map fv, ag2, cg2, D :: Ds, by go_num, rfl, rfl, rfl, by omega, S10, N9.out, hG2.keep b10⟩
            · simp [intOf]; omega
          · rw [if_neg hcm] at HLA
            go_wp2_with (go_at_call 8; refine RC.out.mono ?_; rintro e w10 ⟨rfl, b10⟩)
            have S10o := S9.keep (KeepG.below b10 hzW)
            have S10 : Side w1 A ao co cut (some ⟨bc, oc, none⟩) cc5 (Option.map (fun x : Addr => x.add mm) a7) left' (D :: Ds) w10 := ⟨S10o.low, S10o.all, S10o.cuts, HLA.out.keep b10, fun D' hD' => by
              rcases List.mem_cons.1 hD' with rfl | h
              · exact ⟨hD1, Nat.lt_of_lt_of_le hDl b10.size, hM.below b10 hDl⟩
              · exact S10o.marks D' h, List.nodup_cons.2 ⟨hDn, S10o.nodup⟩⟩
            refine HK.out _ _ ?_ ?_
            · (repeat apply Exists.intro)
              refine ⟨?_, rfl⟩
              exact ⟨k + 1, j + m, q, (Option.map (fun x : Addr => x.add mm) a7), (c7 - mm), left', VS ++ ys.map fv, ag2, cg2, D :: Ds, by go_num, rfl, rfl, rfl, by omega, S10, N9.out, hG2.keep b10⟩
            · simp [intOf]; omega
      · have hke : k = cut.length := by have := HN.kle; omega
        obtain ⟨hj, hleft⟩ := HN.last hke
        have hll0 : left.length = 0 := by rw [hleft]; rfl
        rw [hll0]
        clear hleft hll0
        have hvs := HN.vs
        rw [hj, List.take_length] at hvs
        have HVs := Lib.hid hvs
        have HMk := Lib.hid HS.marks
        have HNd := Lib.hid HS.nodup
        have HLw := Lib.hid HS.low
        have HG0 := Lib.hid HG
        have hvl : VS.length ≤ 50 := by have := congrArg List.length hvs; rw [List.length_map] at this; have h2 := valids_len (L.map (·.2)); rw [List.length_map, ← HGS.out] at h2; omega
        have hr0 := R1.lt
        clear HN hvs hj hke HS HG HK HGV HAll hcA hn HLast HCl
        obtain ⟨w9, rfl⟩ : ∃ x, x = wr := ⟨wr, rfl⟩
        go_wp2_with fail
        go_loopw [94, 10] (fun i n wr => ChkR L w9 i n wr) (fun i _ _ => L.length - (intOf i).toNat)
        case atStart => exact ⟨0, 0, Nat.zero_le _, rfl, rfl, rfl, Below.refl _ _⟩
        case round =>
          obtain ⟨k, n, hk, rfl, rfl, HN, HB⟩ := hrel
          have HBl := Lib.hid (HLw.out.trans (HB.out.mono HLw.out.size))
          by_cases hlt : k < L.length
          · have hltI : (k : Int) < (L.length : Int) := by omega
            obtain ⟨b, off, rfl, c0⟩ := vcells_get (HA.out.keep HBl.out) k hlt
            obtain ⟨fa, fc, hv, hfl, hfat⟩ := (HL.out _ (List.getElem_mem hlt)).keep HBl.out
            have hsum := HSum.out _ (List.getElem_mem hlt)
            have HYes := Lib.hid (fun h => valids_yes hlt h)
            have HNo := Lib.hid (fun h => valids_no hlt h)
            have HCk := Lib.hid (fun h => chk_step HGS.out hlt h)
            generalize L[k] = x at *
            obtain ⟨xv, fs⟩ := x
            simp only at c0 hv hfl hfat hsum HYes HNo HCk
            subst hv
            have hsl := sumL_len fs
            have VC := Lib.hid (fun W h hp => valid_calls fs fa fc W (by omega) (by omega) h hp)
            have HF := Lib.hid hfat
            rw [← HN.out] at HCk
            have hEp := (HE.out.keep HBl.out).pw
            have HEp := Lib.hid hEp
            have hR4 := R1.below HBl.out hz1
            clear hfat hsum hEp
            by_cases hvr : validR fs = 0
            · obtain ⟨hnv, hf2⟩ := gs_at HVs.out (HCk.out hvr)
              have hnI : ¬ (VS.length : Int) ≤ (n : Int) := by omega
              have hGr := HG0.out.keep HB.out
              obtain ⟨ga, goff, rfl, g0⟩ := vcells_get (AtT.own hGr.own).at_ n hnv
              obtain ⟨ia, ic, hiv, him, hiat⟩ := hGr.items _ (List.getElem_mem hnv)
              have c11 := hGr.box.cell 0
              rw [hf2] at hiv hiat him
              rw [hiv] at g0
              have HI := Lib.hid hiat
              have SM := Lib.hid (fun W h1 h2 => same_calls ia fa ic fc fs fs W (Nat.le_trans him (by decide)) (by omega) h1 h2)
              have HY := Lib.hid (HYes.out hvr)
              rw [hvr] at VC
              have HGr := Lib.hid hGr
              have g0b := World.block_lt_of_cell? wr _ g0
              clear HYes HNo HCk hf2 hiv hiat hGr hvr
              have hn50 : n ≤ 50 := by omega
              go_wp2_with (first
                | (go_at_call 9; refine (VC.out _ HF.out HEp.out).mono ?_; rintro e w3 ⟨rfl, b3⟩; have d11 := (b3.cell HGr.out.box.lt).trans c11; have dg := (b3.cell g0b).trans g0)
                | (go_at_call 10; refine (SM.out _ (HI.out.at_.keep b3) (HF.out.keep b3)).mono ?_; rintro e w4 ⟨rfl, n2, hw2⟩; have b4 : Below w3.heap.size w3 w4 := hw2 ▸ below_drewN (Below.refl _ _) n2; clear hw2))
              go_roundw
              case rel => exact ⟨k + 1, n + 1, by omega, by go_num, by go_num, by have := HN.out; rw [HY.out, List.length_append, ← this]; rfl, HB.out.trans ((b3.trans (b4.mono b3.size)).mono HB.out.size)⟩
              case measure => simp [intOf]; omega
            · have hvb : (validR fs == 0) = false := by simpa using hvr
              have HY := Lib.hid (HNo.out hvr)
              clear HYes HNo HCk
              go_wp2_with (go_at_call 9; refine (VC.out _ HF.out HEp.out).mono ?_; rintro e w3 ⟨rfl, b3⟩)
              go_roundw
              case rel => exact ⟨k + 1, n, by omega, by go_num, rfl, by rw [HY.out]; exact HN.out, HB.out.trans (b3.mono HB.out.size)⟩
              case measure => simp [intOf]; omega
          · obtain rfl : k = L.length := by omega
            have hGr := HG0.out.keep HB.out
            have hR4 := R1.below HBl.out hz1
            have c11 := hGr.box.cell 0
            have c4 := hR4.cell 0
            have f4 := hR4.frozen 0
            have hn1 := HN.out
            rw [List.take_length, ← HGS.out, ← HVs.out, List.length_map] at hn1
            subst hn1
            have HX := Lib.hid (hR4.set 0 (.bool true))
            have HKo := Lib.hid (KeepsOthers.setCell wr ⟨w.heap.size, 0, none⟩ (.bool true))
            have HW := Lib.hid ((HLow.out.trans (HBl.out.mono (Nat.le_of_lt hz1))).setCell (p := ⟨w.heap.size, 0, none⟩) (Nat.le_refl _) (.bool true))
            clear hGr hR4
            go_wp2_with fail
            refine leave_marks (B := w.heap.size) Ds _ (fun D hD => by have := (HMk.out D hD).1; omega) HNd.out (fun D hD => ?_) (fun W' hb hx => ?_)
            · obtain ⟨h1, h2, h3⟩ := HMk.out D hD
              exact MarkAt.keep (MarkAt.below h3 HB.out h2) HKo.out
            · have c6 := (hx _ _ _ HX.out).cell 0
              simp at c6
              exact ⟨.bool true, by simp [results, Tryd.f3, go_sem, c6], rfl, HW.out.trans hb⟩
theorem flat_one {α : Type} (f : α → Value) : ∀ l : List α, l.flatMap (fun x => [f x]) = l.map f
  | [] => rfl
  | x :: l => by rw [List.flatMap_cons, flat_one f l]; rfl
theorem cellsFs : Tryd.prog.cellsOf 26 = 1 := by kernel_rfl
theorem bytesFld : Tryd.prog.bytesOf 39 = 24 := by kernel_rfl
theorem bytesFs : Tryd.prog.bytesOf 26 = 24 := by kernel_rfl
theorem bytesInt : Tryd.prog.bytesOf 3 = 8 := by kernel_rfl
/-- a list of fields that can be handed in -/
def FsOk (W : World) (x : FV) : Prop := FsAt x W ∧ ∀ f ∈ x.2, f.2.length ≤ 140737488351232
section
variable {H : Type} {enc : TypeId × Value → H} {W : World}
set_option maxRecDepth 100000 in
theorem each_fs (m : Nat) (r : List Value) (z : DataW H × List MemPlace) (_ : r.length = Tryd.prog.cellsOf 26) (hf : DataW.trod enc Tryd.prog W 0 (fun _ => true) true m 26 r = some z) (hw : ∀ x ∈ z.1.weights Tryd.prog 26, x ≤ reachBytes) :
    ∃ x : FV, r = [x.1] ∧ FsOk W x := by
  obtain ⟨a, l, cap, rfl, hat, hc, _, hok, hb⟩ := open_recs (f := fcell) (Ok := FldOk) Tryd.underlying26 hf hw (fun m r z hl h hw => row_field (by rw [hl, cellsOf_field]) h hw)
  rw [bytesFld] at hb
  exact ⟨(.slice a l.length cap, l), rfl, ⟨a, cap, rfl, by show l.length ≤ _; omega, hat⟩, fun f hf => (hok f hf).2⟩
set_option maxRecDepth 100000 in
theorem each_int (m : Nat) (r : List Value) (z : DataW H × List MemPlace) (_ : r.length = Tryd.prog.cellsOf 3) (hf : DataW.trod enc Tryd.prog W 0 (fun _ => true) true m 3 r = some z) (_ : ∀ x ∈ z.1.weights Tryd.prog 3, x ≤ reachBytes) :
    ∃ x : Int, r = [.int .i64 x] ∧ True := by
  obtain ⟨x, rfl, _, _⟩ := DataW.trod_int Tryd.underlying3 hf
  exact ⟨x, rfl, trivial⟩
end
set_option maxRecDepth 100000 in
theorem opened (H : Type) (enc : TypeId × Value → H) (W : World) (base : Nat) (args : Array Value) (ds : List (DataW H)) (p : List MemPlace)
    (hval : ∀ (j : Nat) t v, Tryd.f3.params[j]? = some t → args[j]? = some v → Value.okWide Tryd.prog W .any base t v)
    (hA : DataW.TrodAll enc Tryd.prog W 0 (fun _ => true) true Tryd.f3.params.toList args.toList ds p)
    (hr : ∀ x ∈ DataW.weightsEach Tryd.prog Tryd.f3.params.toList ds, x ≤ reachBytes)
    (hL : laidMetH Tryd.prog Rows.tagPiecesUptoRow.laid W) (hS : W.ShapedOpen Tryd.prog) (_hk : Rows.uptoSmall H ds = true) :
    Calls Tryd.prog 3 args W fun e W' => e = .returned (.bool true) ∧ Below W.heap.size W W' := by
  rw [Tryd.params3] at hA hval hr
  obtain ⟨v0, vs0, d0, ds0, p0, q0, hargs, rfl, rfl, h0, r0⟩ := trodAll_cons hA
  obtain ⟨v1, vs1, d1, ds1, p1, q1, rfl, rfl, rfl, h1, r1⟩ := trodAll_cons r0
  obtain ⟨rfl, rfl, rfl⟩ := trodAll_nil r1
  obtain rfl : args = #[v0, v1] := by cases args; simp_all
  obtain ⟨a0, n0, k0, rfl⟩ := okWide_slice Tryd.underlying22 (hval 0 22 v0 rfl rfl)
  obtain ⟨a1, n1, k1, rfl⟩ := okWide_slice Tryd.underlying23 (hval 1 23 v1 rfl rfl)
  obtain ⟨fuel0, hf0⟩ := h0
  obtain ⟨fuel1, hf1⟩ := h1
  obtain ⟨a, L, cap, e0, hat, hc, _, hok, hb⟩ := open_recs (f := fun x : FV => [x.1]) (Ok := FsOk W) Tryd.underlying22 hf0 (fun x hx => hr x (weights_each (i := 0) rfl rfl x hx)) each_fs
  obtain ⟨ac, cs, cc, e1, hatc, hcc, _, _, hbc⟩ := open_recs (f := fun x : Int => [.int .i64 x]) (Ok := fun _ => True) Tryd.underlying23 hf1 (fun x hx => hr x (weights_each (i := 1) rfl rfl x hx)) each_int
  simp [Value.cells] at e0 e1
  obtain ⟨rfl, rfl, rfl⟩ := e0
  obtain ⟨rfl, rfl, rfl⟩ := e1
  rw [flat_one] at hat hatc
  rw [bytesFs] at hb
  rw [bytesInt] at hbc
  exact walk L cs a0 a1 k0 k1 W (by omega) (fun x hx => (hok x hx).2) (fun x hx => (hok x hx).1) hat (by omega) hcc hatc (env_laid hL hS)
end Go.Proofs.YtckcnenhnniogaaDoor.tagPieces
