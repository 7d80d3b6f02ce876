/- Frames: what its iterator hands, with the blocks' types; Rest. Written by genseqt.py. -/
import Derived.Test.YtckcnenhnniogaaDoorTagDecode
import Derived.Test.YtckcnenhnniogaaDoorTagFrMath
import Derived.Test.YtckcnenhnniogaaDoorBaseHand
import Derived.Test.YtckcnenhnniogaaDoorBaseSeq
import Derived.Laws.Cover3
import Derived.TacticsInMore
import Derived.LoopIn
import Derived.OwnWalkIn
set_option linter.unusedSimpArgs false
set_option linter.unusedVariables false
namespace Go.Proofs.YtckcnenhnniogaaDoor.TagW
open Go.RowKit Go.Shelf Go.Proofs.YtckcnenhnniogaaDoor.Bas Go.Proofs.YtckcnenhnniogaaDoor.FixpM Go.Proofs.YtckcnenhnniogaaDoor.FixpW Go.Proofs.YtckcnenhnniogaaDoor.DecW Go.Proofs.YtckcnenhnniogaaDoor.FldW Go.Proofs.YtckcnenhnniogaaDoor.TagM Go.Proofs.YtckcnenhnniogaaDoor.DecM
attribute [local go_sem] Oper.semAt_some

/-- what is handed: the list's value, and its fields with the error -/
def encT (x : Value × Itm) : Array Value := #[x.1, .int .i64 x.2.2]
/-- elements of one type -/
structure AtT (W : World) (t : TypeId) (a : Option Addr) (xs : List Value) : Prop where
  at_ : At W a xs
  ty : ∀ p, a = some p → ∃ cs sp, W.heap[p.block]? = some (.cells cs t sp)
theorem AtT.keep {A B : World} {t : TypeId} {a : Option Addr} {xs : List Value} (h : AtT A t a xs) (b : Below A.heap.size A B) : AtT B t a xs :=
  ⟨h.at_.keep b, fun p hp => by
    obtain ⟨cs, sp, hc⟩ := h.ty p hp
    exact ⟨cs, sp, (b.block _ (Array.getElem?_eq_some_iff.1 hc).1).trans hc⟩⟩
theorem AtT.nil {W : World} {t : TypeId} : AtT W t none [] := ⟨At.nil _ _, fun p hp => by cases hp⟩
theorem AtT.drop {W : World} {t : TypeId} {g off : Nat} {xs : List UInt8} (h : AtT W t (some ⟨g, off, none⟩) (u8s xs)) (m : Nat) : AtT W t (some ⟨g, off + m, none⟩) (u8s (xs.drop m)) :=
  ⟨At.drop h.at_ m, fun p hp => by cases hp; exact h.ty ⟨g, off, none⟩ rfl⟩
theorem AtT.own {W : World} {base z n cap : Nat} {t : TypeId} {a : Option Addr} {xs : List Value} (h : W.ownsRow base t z (.slice a n cap) n xs) : AtT W t a xs := by
  obtain ⟨a', c', h1, _, _, h4, _, _⟩ := at_of_owns h
  cases h1
  refine ⟨h4, fun p hp => ?_⟩
  subst hp
  rcases h.2 with ⟨hn, _⟩ | ⟨g, _, cur, e, _, hg, _⟩
  · cases hn
  · cases e
    exact ⟨cur, _, hg⟩
theorem AtT.grown {A B : World} {t : TypeId} {a : Option Addr} {xs : List Value} {row : Option Nat} (h : AtT A t a xs) (hg : A.grownBy B row) (hr : ∀ r, row = some r → ∃ o : Obj, A.heap[r]? = some o ∧ o.isCells = false) : AtT B t a xs := by
  refine ⟨fun j u hj => ?_, fun p hp => ?_⟩
  · obtain ⟨b, off, e, hc⟩ := h.at_ j u hj
    exact ⟨b, off, e, cell_kept hc hg hr⟩
  · obtain ⟨cs, sp, hc⟩ := h.ty p hp
    refine ⟨cs, sp, (hg.block _ (Array.getElem?_eq_some_iff.1 hc).1 fun e => ?_).trans hc⟩
    obtain ⟨o, ho, hcl⟩ := hr _ e.symm
    rw [hc] at ho
    cases ho
    simp [Obj.isCells] at hcl
/-- a list of fields, its value -/
abbrev FV := Value × List Fld
def FsT (x : FV) (W : World) : Prop := ∃ a cap, x.1 = .slice a x.2.length cap ∧ x.2.length ≤ maxLen ∧ AtT W 39 a (fcells x.2)
theorem FsT.keep {x : FV} {A B : World} (h : FsT x A) (b : Below A.heap.size A B) : FsT x B := by
  obtain ⟨a, cap, h1, hm, h2⟩ := h
  exact ⟨a, cap, h1, hm, h2.keep b⟩
theorem FsT.grown {x : FV} {A B : World} {row : Option Nat} (h : FsT x A) (hg : A.grownBy B row) (hr : ∀ r, row = some r → ∃ o : Obj, A.heap[r]? = some o ∧ o.isCells = false) : FsT x B := by
  obtain ⟨a, cap, h1, hm, h2⟩ := h
  exact ⟨a, cap, h1, hm, h2.grown hg hr⟩
def fv (x : Value × Itm) : FV := (x.1, x.2.1)
def HandT (x : Value × Itm) (W : World) : Prop := FsT (fv x) W
theorem own_handT (B : Nat) : OwnFrom B HandT := fun _ _ _ _ h hg hr => FsT.grown h hg (fun r e => (hr r e).2)
/-- bytes that lie in the blocks from lo up to hi -/
def Lies (W : World) (lo hi : Nat) (a : Option Addr) (r : List UInt8) : Prop := At W a (u8s r) ∧ (r ≠ [] → ∀ p, a = some p → lo ≤ p.block ∧ p.block < hi)
theorem Lies.span {A B : World} {lo hi : Nat} {a : Option Addr} {r : List UInt8} (h : Lies A lo hi a r) (s : Span lo hi A B) : Lies B lo hi a r := by
  refine ⟨fun j u hj => ?_, h.2⟩
  obtain ⟨b, off, rfl, hc⟩ := h.1 j u hj
  have hne : r ≠ [] := by intro e; subst e; cases hj
  have := h.2 hne _ rfl
  exact ⟨b, off, rfl, (s.cell (p := ⟨b, off + j, none⟩) this.1 this.2).trans hc⟩
/-- what an iterator of Frames holds -/
structure KeptT (W : World) (lo hi go : Nat) (v : Value) (s : List UInt8) : Prop where
  own : Box W go 25 #[v]
  row : W.ownsRow lo 5 1 v s.length (u8s s)
  l1 : lo ≤ go
  h1 : go < hi
  h2 : ∀ k, v.ownBlock = some k → k < hi
theorem KeptT.span {A B : World} {lo hi go : Nat} {v : Value} {s : List UInt8} (h : KeptT A lo hi go v s) (hs : Span lo hi A B) : KeptT B lo hi go v s := by
  refine ⟨(hs go h.l1 h.h1).trans h.own, ⟨h.row.1, ?_⟩, h.l1, h.h1, h.h2⟩
  rcases h.row.2 with hn | ⟨g, cap, cur, rfl, hbg, hg, r⟩
  · exact .inl hn
  · exact .inr ⟨g, cap, cur, rfl, hbg, (hs g hbg (h.h2 g rfl)).trans hg, r⟩
theorem KeptT.below {A B : World} {lo hi go n : Nat} {v : Value} {s : List UInt8} (h : KeptT A lo hi go v s) (hb : Below n A B) (hn : hi ≤ n) : KeptT B lo hi go v s := h.span (.below hb hn)
theorem Lies.nil {W : World} {lo hi : Nat} {a : Option Addr} : Lies W lo hi a [] := ⟨At.nil _ _, fun h => absurd rfl h⟩
theorem Lies.drop {W : World} {lo hi g off : Nat} {r : List UInt8} (h : Lies W lo hi (some ⟨g, off, none⟩) r) (m : Nat) : Lies W lo hi (some ⟨g, off + m, none⟩) (r.drop m) := by
  refine ⟨At.drop h.1 m, fun hne p hp => ?_⟩
  cases hp
  have hn : r ≠ [] := by intro e; rw [e] at hne; simp at hne
  exact h.2 hn ⟨g, off, none⟩ rfl
theorem KeptT.lies {W : World} {lo hi go : Nat} {v : Value} {s : List UInt8} (h : KeptT W lo hi go v s) : ∃ a cap, v = .slice a s.length cap ∧ s.length ≤ cap ∧ Lies W lo hi a s := by
  obtain ⟨a, cap, rfl, _, hc, hat, _, _⟩ := at_of_owns h.row
  refine ⟨a, cap, rfl, hc, hat, fun hne p hp => ?_⟩
  subst hp
  rcases h.row.2 with ⟨hn, h0⟩ | ⟨g, cap', cur, hv, hbg, hg, r⟩
  · exact absurd (List.eq_nil_of_length_eq_zero h0) hne
  · cases hv
    exact ⟨hbg, h.h2 g rfl⟩

/-- Frames' answer -/
def seqT (go : Nat) : Value := .func (.func 16) #[] #[.pointer (some ⟨go, 0, none⟩)]
theorem run_eql_slice_nil {P : Program} (w : World) (t e : TypeId) (a : Option Addr) (l c : Nat) (h : P.underlying t = some (.slice e)) : (binOp .eql t (.slice a l c) (.slice none 0 0)).run P w = .ok (.bool a.isNone) w := by
  simp only [binOp]
  simp [run_equal_slice_nil w t e a l c h]
theorem clone8_calls (a : Option Addr) (cap : Nat) (xs : List UInt8) (w : World) (hbig : xs.length ≤ 140737488351232) (hc : At w a (u8s xs)) :
    Calls Tryd.prog 15 #[.slice a xs.length cap] w fun e w' => ∃ s, e = .returned s ∧ w'.ownsRow w.heap.size 5 1 s xs.length (u8s xs) ∧ Below w.heap.size w w' := by
  go_enter Tryd.func15, Tryd.ntmps15
  cases a with
  | none =>
    have h0 : xs = [] := by
      cases xs with
      | nil => rfl
      | cons x r => obtain ⟨b, off, h, _⟩ := hc 0 _ rfl; cases h
    subst h0
    have hq := run_eql_slice_nil (P := Tryd.prog) w 25 5 none 0 cap Tryd.underlying25
    simp only [Option.isNone] at hq
    go_wp2_with fail
    go_ret
    exact ⟨_, rfl, World.ownsRow_nil _ _ _ _, Below.refl _ _⟩
  | some p =>
    have hq := run_eql_slice_nil (P := Tryd.prog) w 25 5 (some p) xs.length cap Tryd.underlying25
    simp only [Option.isNone] at hq
    go_wp2_with (first | (at_builtin; refine wpList_append_at _ rfl (.tmp 5) (.tmp 6) elem8 rfl w.heap.size (.slice (some ⟨w.heap.size, 0, none⟩) 0 0) 0 [] rfl (World.ownsRow_made _ _ _ (Nat.le_refl _) (by unfold maxLen; omega) rfl) (some p) xs.length cap (u8s xs) rfl (by rw [u8s_len]; omega) (hc.keep ((Below.refl _ _).alloc (Nat.le_refl _) _)) (one_u8 xs) (by unfold maxLen; omega) (by omega) (by simp) ?_; intro v2 w2 own2 bel2 g2 ob2; simp only [Nat.zero_add, List.nil_append] at own2; have hB2 := ((Below.refl w.heap.size w).alloc (Nat.le_refl _) (.cells #[] 5)).trans bel2))
    go_ret
    exact ⟨_, rfl, own2, hB2⟩
set_option maxHeartbeats 1000000 in
theorem frames_calls (a : Option Addr) (cap : Nat) (s : List UInt8) (w : World) (hbig : s.length ≤ 140737488351232) (hc : At w a (u8s s)) :
    Calls Tryd.prog 7 #[.slice a s.length cap] w fun e w' => ∃ go v, e = .returned (seqT go) ∧ KeptT w' w.heap.size w'.heap.size go v s ∧ Below w.heap.size w w' := by
  have C := Lib.hid (clone8_calls a cap s w hbig hc)
  clear hc
  go_enter Tryd.func7, Tryd.ntmps7
  go_wp2_with (first | (go_at_call 15; refine C.out.mono ?_; rintro e w2 ⟨v, rfl, own, hB⟩; obtain ⟨ao, co, rfl, _, _, _, _, _⟩ := at_of_owns own))
  go_ret
  have hz := hB.size
  refine ⟨w2.heap.size, .slice ao s.length co, rfl, ⟨Box.new _ _ _, own.alloc _, by omega, by simp, ?_⟩, hB.alloc (by omega) _⟩
  intro k hk
  have := (own.lt k hk).2
  simp; omega
/-- how a round ended -/
def Came (A B : World → Prop) (e : Ending) (w' : World) : Prop := ∃ b : Bool, e = .returned (.bool b) ∧ ((b = true ∧ A w') ∨ (b = false ∧ B w'))
theorem came {A B : World → Prop} {e : Ending} {w' : World} (h : (e = .returned (.bool true) ∧ A w') ∨ (e = .returned (.bool false) ∧ B w')) : Came A B e w' := by
  rcases h with ⟨rfl, h⟩ | ⟨rfl, h⟩
  · exact ⟨true, rfl, .inl ⟨rfl, h⟩⟩
  · exact ⟨false, rfl, .inr ⟨rfl, h⟩⟩
/-- between two frames -/
def FrR (s : List UInt8) (wb : World) (lo hi : Nat) (J : List (Value × Itm) → World → Prop) (rest : Value) (wr : World) : Prop :=
  ∃ (pre : List (Value × Itm)) (r : List UInt8) (a : Option Addr) (cap : Nat), rest = .slice a r.length cap ∧ J pre wr ∧ Hid (Lies wr lo hi a r) ∧ Hid (pre.map (·.2) ++ (framesR r).1 = (framesR s).1) ∧ Hid (Below wb.heap.size wb wr) ∧ r.length ≤ cap ∧ r.length ≤ s.length ∧ hi ≤ wr.heap.size
set_option maxRecDepth 100000 in
set_option maxHeartbeats 2000000 in
theorem frames1_in (n : Nat) (hn : 1 ≤ n) (l lo hi go : Nat) (v : Value) (s : List UInt8) (hs : s.length ≤ 400000) (wb : World) (Eb : Env wb) (J Jx : List (Value × Itm) → World → Prop)
    (hY : ∀ pre x W, J pre W → HandT x W → pre.length < (framesR s).1.length → YieldAt Fence.wide (n - 1) Tryd.prog l (encT x) W fun e W' =>
      (e = .returned (.bool true) ∧ J (pre ++ [x]) W' ∧ KeepT wb.heap.size lo hi W W') ∨ (e = .returned (.bool false) ∧ Jx (pre ++ [x]) W'))
    (W : World) (hh : hi ≤ W.heap.size) (hJ : AbidesFrom W.heap.size J) (hT : KeptT W lo hi go v s) (hb : Below wb.heap.size wb W) (h0 : J [] W) :
    CallsIn Fence.wide n Tryd.prog 16 #[.func (.yield l) #[] #[], .pointer (some ⟨go, 0, none⟩)] W fun e W' => (∃ v, e = .returned v) ∧
      ((∃ xs, xs.map (·.2) = (framesR s).1 ∧ J xs W') ∨ (∃ pre, (pre ≠ [] ∧ pre.map (·.2) <+: (framesR s).1) ∧ Jx pre W')) := by
  refine callsIn_of_wp Tryd.func16 rfl trivial ?_ rfl
  simp only [Tryd.ntmps16, List.size_toArray, List.length_cons, List.length_nil, Nat.reduceAdd, Nat.reduceSub, Array.replicate_succ, Array.replicate_zero, List.push_toArray, List.append_toArray, List.nil_append, List.cons_append]
  obtain ⟨a, cap, rfl, hc, hL⟩ := hT.lies
  have c1 := hT.own.cell 0
  have HL := Lib.hid hL
  have HB := Lib.hid hb
  have HE := Lib.hid Eb
  have HJ := Lib.hid hJ
  clear hT hL hb Eb hJ
  gi_wp2
  clear c1
  gi_loopw [3] (FrR s wb lo hi J) (fun i _ => sliceLen i)
  case atStart => exact ⟨[], s, a, cap, rfl, h0, HL.out, by simp [Hid], HB.out, hc, Nat.le_refl _, hh⟩
  case round =>
    clear HL HB h0 hc
    obtain ⟨pre, r, a, cap, rfl, hJs, HL, HM, HB, hc, hr, hi1⟩ := hrel
    have hpos := fun h => decode_pos (s := r) h
    have D := tdecode_calls r a cap wr (by omega) hc HL.out.1 (HE.out.keep HB.out)
    unfold DecV at D
    have H10 := Lib.hid (fun h => framesR_stop (s := r) h)
    have HST := Lib.hid (fun h => framesR_step (s := r) h)
    generalize decodeR r = dr at *
    obtain ⟨⟨fs, m⟩, er⟩ := dr
    simp only at D hpos H10 HST
    have D := Lib.hid D
    by_cases he : er = 10
    · subst he
      have HD := Lib.hid (show pre.map (·.2) = (framesR s).1 by have := HM.out; rw [H10.out rfl, List.append_nil] at this; exact this)
      clear HST hpos hY HM
      gi_wp2_with (first | (refine ⟨trivial, ?_⟩; gi_at_call 17; refine (callsIn_wide.2 D.out).mono ?_; rintro e w2 ⟨⟨v2, rfl, own2⟩, b2⟩; have J2 := HJ.out pre wr w2 none hJs ⟨b2.os, b2.tape, b2.output, b2.size, fun g hg _ => b2.block g hg⟩ (fun r e => by cases e)))
      refine ⟨(fun f h => by cases h), ?_⟩
      gi_wp2
      refine bodyPost_ret (results_none rfl _ _ _) rfl ?_
      exact ⟨⟨_, rfl⟩, .inl ⟨_, HD.out, J2⟩⟩
    · have hne : (er == 10) = false := by simpa using he
      obtain ⟨p1, p2⟩ := hpos he
      have hst := HST.out he
      have HM' := HM.out
      rw [hst] at HM'
      have hlen : pre.length < (framesR s).1.length := by rw [← HM']; simp
      have HM2 := Lib.hid HM'
      clear HST hpos H10 HM HM' hst
      have HY := Lib.hid hY
      clear hY
      gi_wp2_with (first | (refine ⟨trivial, ?_⟩; gi_at_call 17; refine (callsIn_wide.2 D.out).mono ?_; rintro e w2 ⟨⟨v2, rfl, own2⟩, b2⟩; have J2 := HJ.out pre wr w2 none hJs ⟨b2.os, b2.tape, b2.output, b2.size, fun g hg _ => b2.block g hg⟩ (fun r e => by cases e); obtain ⟨a2, c2, rfl, hmx2, hle2, at2, _, _⟩ := at_of_owns own2; obtain ⟨fn, tmps, assign, body, hy', hR⟩ := HY.out pre (.slice a2 fs.length c2, (fs, er)) w2 J2 ⟨a2, c2, rfl, Nat.le_trans hle2 hmx2, AtT.own own2⟩ hlen; unfold encT at hy'; have hR2 := Lib.hid (hR.mono (R' := Came (fun W' => J (pre ++ [(.slice a2 fs.length c2, (fs, er))]) W' ∧ KeepT wb.heap.size lo hi w2 W') (Jx (pre ++ [(.slice a2 fs.length c2, (fs, er))]))) (fun e W' h => came h)); clear hR; have L2 := Lib.hid (HL.out.span (.below b2 hi1)); have B2 := Lib.hid (HB.out.trans (b2.mono HB.out.size)); have hz2 := b2.size; have hb2 := Nat.le_trans HB.out.size b2.size; clear own2 at2 b2))
      refine hR2.out.mono ?_
      rintro e W3 ⟨b, rfl, hW⟩
      rcases hW with ⟨rfl, hJ3, hk3⟩ | ⟨rfl, hJx3⟩
      · have L3 := Lib.hid (L2.out.span hk3.span)
        have B3 := Lib.hid (B2.out.trans hk3.low)
        have hz3 := hk3.low.size
        have HM3 := Lib.hid (show (pre ++ [((.slice a2 fs.length c2, (fs, er)) : Value × Itm)]).map (·.2) ++ (framesR (r.drop m)).1 = (framesR s).1 by rw [List.map_append, List.append_assoc]; exact HM2.out)
        have hhi : hi ≤ W3.heap.size := Nat.le_trans (Nat.le_trans hi1 hz2) hz3
        have hwb : wb.heap.size ≤ W3.heap.size := Nat.le_trans hb2 hz3
        obtain ⟨g, off, rfl, _⟩ := L3.out.1 0 _ (u8s_get r 0 (by omega))
        have LD := Lib.hid (L3.out.drop m)
        have hdl : (r.drop m).length = r.length - m := List.length_drop
        clear hR2 hy' hk3 L2 B2 L3 HM2 HY D HL HB
        generalize r.drop m = r2 at *
        by_cases hcm : cap = m
        · have hr0 : r2 = [] := List.eq_nil_of_length_eq_zero (by omega)
          subst hr0
          subst hcm
          gi_wp2
          go_roundw
          case rel => exact ⟨pre ++ [(((.slice a2 fs.length c2 : Value), ((fs, er) : Itm)))], [], some ⟨g, off, none⟩, 0, rfl, hJ3, Lies.nil, HM3.out, B3.out, Nat.zero_le _, Nat.zero_le _, hhi⟩
          case measure => simp [sliceLen]; omega
        · gi_wp2
          go_roundw
          case rel => exact ⟨pre ++ [(((.slice a2 fs.length c2 : Value), ((fs, er) : Itm)))], r2, some ⟨g, off + m, none⟩, cap - m, by rw [hdl], hJ3, LD.out, HM3.out, B3.out, by omega, by omega, hhi⟩
          case measure => simp [sliceLen]; omega
      · clear hR2 hy'
        gi_wp2
        refine bodyPost_ret (results_none rfl _ _ _) rfl ?_
        exact ⟨⟨_, rfl⟩, .inr ⟨_, ⟨by simp, by rw [List.map_append]; exact ⟨_, by rw [List.append_assoc]; exact HM2.out⟩⟩, hJx3⟩⟩
/-- what Frames hands back goes over the frames, or stops where it is told to -/
theorem frames_hands (n : Nat) (hn : 1 ≤ n) (lo hi go : Nat) (v : Value) (s : List UInt8) (hs : s.length ≤ 400000) (wb : World) (Eb : Env wb) (w : World) (hT : KeptT w lo hi go v s) (hh : hi ≤ w.heap.size) (hb : Below wb.heap.size wb w) :
    SeqHands Fence.wide n Tryd.prog 16 #[.pointer (some ⟨go, 0, none⟩)] encT HandT (KeepT wb.heap.size lo hi) (fun xs => xs.map (·.2) = (framesR s).1) (fun pre => pre ≠ [] ∧ pre.map (·.2) <+: (framesR s).1) (framesR s).1.length w := fun l J Jx W hW hJ _ hY h0 => by
  exact frames1_in n hn l lo hi go v s hs wb Eb J Jx hY W (Nat.le_trans hh hW.size) hJ (hT.below hW hh) (hb.trans (hW.mono hb.size)) h0
/-- between two frames of Rest -/
def RestR (s : List UInt8) (w : World) (rest : Value) (wr : World) : Prop :=
  ∃ (r : List UInt8) (a : Option Addr) (cap : Nat), rest = .slice a r.length cap ∧ Hid (At wr a (u8s r)) ∧ Hid ((framesR r).2 = (framesR s).2) ∧ Hid (Below w.heap.size w wr) ∧ r.length ≤ cap ∧ r.length ≤ s.length
set_option maxHeartbeats 2000000 in
set_option maxRecDepth 20000 in
theorem rest_calls (s : List UInt8) (a : Option Addr) (cap : Nat) (w : World) (hl : s.length ≤ 400000) (hcap : s.length ≤ cap) (hat : At w a (u8s s)) (E : Env w) :
    Calls Tryd.prog 8 #[.slice a s.length cap] w fun e w' => e = .returned (.int .i64 ((framesR s).2 : Int)) ∧ Below w.heap.size w w' := by
  have HE := Lib.hid E
  have HA := Lib.hid hat
  clear E hat
  go_enter Tryd.func8, Tryd.ntmps8
  go_wp2_with fail
  go_loopw [0] (RestR s w) (fun i _ => sliceLen i)
  case atStart => exact ⟨s, a, cap, rfl, HA.out, rfl, Below.refl _ _, hcap, Nat.le_refl _⟩
  case round =>
    clear HA hcap
    obtain ⟨r, a, cap, rfl, HA, HM, HB, hc, hr⟩ := hrel
    have hpos := fun h => decode_pos (s := r) h
    have D := tdecode_calls r a cap wr (by omega) hc HA.out (HE.out.keep HB.out)
    unfold DecV at D
    have H10 := Lib.hid (fun h => framesR_stop (s := r) h)
    have HST := Lib.hid (fun h => framesR_step (s := r) h)
    generalize decodeR r = dr at *
    obtain ⟨⟨fs, m⟩, er⟩ := dr
    simp only at D hpos H10 HST
    have D := Lib.hid D
    by_cases he : er = 10
    · subst he
      have HD := Lib.hid (show (framesR s).2 = r.length by rw [← HM.out, H10.out rfl])
      clear HST hpos HM
      go_wp2_with (go_at_call 17; refine D.out.mono ?_; rintro e w2 ⟨⟨v2, rfl, own2⟩, b2⟩)
      go_ret
      exact ⟨by rw [HD.out]; rfl, HB.out.trans (b2.mono HB.out.size)⟩
    · have hne : (er == 10) = false := by simpa using he
      obtain ⟨p1, p2⟩ := hpos he
      have HM2 := Lib.hid (show (framesR (r.drop m)).2 = (framesR s).2 by rw [← HM.out, HST.out he])
      obtain ⟨g, off, rfl, _⟩ := HA.out 0 _ (u8s_get r 0 (by omega))
      have LD := Lib.hid (At.drop HA.out m)
      have hdl : (r.drop m).length = r.length - m := List.length_drop
      clear HST hpos H10 HM HA
      generalize r.drop m = r2 at *
      by_cases hcm : cap = m
      · have hr0 : r2 = [] := List.eq_nil_of_length_eq_zero (by omega)
        subst hr0
        subst hcm
        go_wp2_with (go_at_call 17; refine D.out.mono ?_; rintro e w2 ⟨⟨v2, rfl, own2⟩, b2⟩)
        go_roundw
        case rel => exact ⟨[], some ⟨g, off, none⟩, 0, rfl, At.nil _ _, HM2.out, HB.out.trans (b2.mono HB.out.size), Nat.zero_le _, Nat.zero_le _⟩
        case measure => simp [sliceLen]; omega
      · go_wp2_with (go_at_call 17; refine D.out.mono ?_; rintro e w2 ⟨⟨v2, rfl, own2⟩, b2⟩)
        go_roundw
        case rel => exact ⟨r2, some ⟨g, off + m, none⟩, cap - m, by rw [hdl], LD.out.keep b2, HM2.out, HB.out.trans (b2.mono HB.out.size), by omega, by omega⟩
        case measure => simp [sliceLen]; omega
end Go.Proofs.YtckcnenhnniogaaDoor.TagW
