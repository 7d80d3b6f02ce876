/- TagKeeps: the walk, and the step from the law's arguments to it. -/
import Derived.Test.YtokinnkagdjciaaDoorTagSeq
import Derived.Test.YtokinnkagdjciaaDoorTagOpen
import Derived.Test.YtokinnkagdjciaaDoorTagLaw
import Derived.Test.YtokinnkagdjciaaDoorBaseFld
import Derived.Test.YtokinnkagdjciaaDoorBaseErr
namespace Go.Proofs.YtokinnkagdjciaaDoor.tagKeeps
open Go.ChangeShapes Go.WideShapes Go.ChangeAt Go.RowKit Go.Shelf Go.Proofs.YtokinnkagdjciaaDoor.Bas Go.Proofs.YtokinnkagdjciaaDoor.FixpM Go.Proofs.YtokinnkagdjciaaDoor.FixpW Go.Proofs.YtokinnkagdjciaaDoor.DecW Go.Proofs.YtokinnkagdjciaaDoor.FldW Go.Proofs.YtokinnkagdjciaaDoor.TagM Go.Proofs.YtokinnkagdjciaaDoor.TagW
attribute [local go_sem] Oper.semAt_some

/-- all blocks but those stand -/
structure KeepS (S : Nat → Prop) (A B : World) : Prop where
  size : A.heap.size ≤ B.heap.size
  same : ∀ h, h < A.heap.size → ¬ S h → B.heap[h]? = A.heap[h]?
theorem KeepS.refl (S : Nat → Prop) (A : World) : KeepS S A A := ⟨Nat.le_refl _, fun _ _ _ => rfl⟩
theorem KeepS.trans {S : Nat → Prop} {A B C : World} (h : KeepS S A B) (k : KeepS S B C) : KeepS S A C :=
  ⟨Nat.le_trans h.size k.size, fun g hg hn => (k.same g (Nat.lt_of_lt_of_le hg h.size) hn).trans (h.same g hg hn)⟩
theorem KeepS.set {S : Nat → Prop} {A : World} {g i : Nat} (hS : S g) (u : Value) : KeepS S A (A.setCell ⟨g, i, none⟩ u) :=
  ⟨by simp, fun h _ hn => Below.heap_setCell A _ u h (fun e => hn (by rw [e]; exact hS))⟩
theorem KeepS.grown {S : Nat → Prop} {A B : World} {row : Option Nat} (h : A.grownBy B row) (hr : ∀ k, row = some k → S k) : KeepS S A B := ⟨h.size, fun g hg hn => h.block g hg (fun e => hn (hr g e.symm))⟩
theorem KeepS.below {S : Nat → Prop} {A B : World} (h : Below A.heap.size A B) : KeepS S A B := ⟨h.size, fun g hg _ => h.block g hg⟩
theorem KeepS.cell {S : Nat → Prop} {A B : World} (k : KeepS S A B) {p : Addr} {v : Value} (h : A.cell? p = some v) (hn : ¬ S p.block) : B.cell? p = some v := by
  have := k.same p.block (World.block_lt_of_cell? A _ h) hn
  unfold World.cell? at h ⊢
  rw [this]
  exact h
theorem KeepS.at_ {S : Nat → Prop} {A B : World} (k : KeepS S A B) {a : Option Addr} {cs : List Value} (h : At A a cs) (hn : ∀ b off, a = some ⟨b, off, none⟩ → ¬ S b) : At B a cs := by
  intro j u hj
  obtain ⟨b, off, rfl, hc⟩ := h j u hj
  exact ⟨b, off, rfl, k.cell hc (hn b off rfl)⟩
theorem KeepS.box {S : Nat → Prop} {A B : World} (k : KeepS S A B) {g : Nat} {t : TypeId} {cs : Array Value} (h : Box A g t cs) (hn : ¬ S g) : Box B g t cs := (k.same g h.lt hn).trans h
theorem KeepS.ownsM {S : Nat → Prop} {A B : World} (k : KeepS S A B) {base : Nat} {e : TypeId} {v : Value} {n : Nat} {xs : List Value} (h : ownsM A base e v n xs) (hn : ∀ g, v.ownBlock = some g → ¬ S g) : ownsM B base e v n xs := by
  refine ⟨h.1, ?_⟩
  rcases h.2 with h0 | ⟨g, cap, cur, fz, rfl, hbg, hg, r⟩
  · exact .inl h0
  · exact .inr ⟨g, cap, cur, fz, rfl, hbg, (k.same g (Array.getElem?_eq_some_iff.1 hg).1 (hn g rfl)).trans hg, r⟩
theorem KeepS.owns {S : Nat → Prop} {A B : World} (k : KeepS S A B) {base : Nat} {e : TypeId} {size : Nat} {v : Value} {n : Nat} {xs : List Value} (h : A.ownsRow base e size v n xs) (hn : ∀ g, v.ownBlock = some g → ¬ S g) : B.ownsRow base e size v n xs := by
  refine ⟨h.1, ?_⟩
  rcases h.2 with h0 | ⟨g, cap, cur, rfl, hbg, hg, r⟩
  · exact .inl h0
  · exact .inr ⟨g, cap, cur, rfl, hbg, (k.same g (Array.getElem?_eq_some_iff.1 hg).1 (hn g rfl)).trans hg, r⟩
theorem KeepS.span {S : Nat → Prop} {A B : World} (k : KeepS S A B) {lo hi : Nat} (hh : hi ≤ A.heap.size) (hn : ∀ g, lo ≤ g → g < hi → ¬ S g) : Span lo hi A B := fun g h1 h2 => k.same g (by omega) (hn g h1 h2)
/-- what was handed in, the variables of a call -/
structure Held (w W : World) (a : Option Addr) (cap : Nat) (fs : List Fld) : Prop where
  X : Box W w.heap.size 22 #[.slice a fs.length cap]
  R : Box W (w.heap.size + 1) 4 #[.bool false]
  H : At W a (fcells fs)
  ab : ∀ b off, a = some ⟨b, off, none⟩ → fs ≠ [] → b < w.heap.size
  low : Below w.heap.size w W
theorem held_new {w : World} {a : Option Addr} {cap : Nat} {fs : List Fld} (hat : At w a (fcells fs)) : Held w ((w.alloc (.cells #[.slice a fs.length cap] 22)).alloc (.cells #[.bool false] 4)) a cap fs := by
  have b1 := Box.new w 22 #[.slice a fs.length cap]
  have b2 := Box.new (w.alloc (.cells #[.slice a fs.length cap] 22)) 4 #[.bool false]
  simp only [World.size_alloc] at b2
  have low := ((Below.refl w.heap.size w).alloc (Nat.le_refl _) (.cells #[.slice a fs.length cap] 22)).alloc (by simp) (.cells #[.bool false] 4)
  refine ⟨b1.alloc _, b2, hat.keep low, fun b off e hne => ?_, low⟩
  subst e
  obtain ⟨f, r, rfl⟩ : ∃ f r, fs = f :: r := List.exists_cons_of_ne_nil hne
  obtain ⟨_, _, e, hc⟩ := hat 0 (.int .i64 f.1) rfl
  cases e
  exact World.block_lt_of_cell? w _ hc
theorem Held.keep {w A B : World} {a : Option Addr} {cap : Nat} {fs : List Fld} (h : Held w A a cap fs) (hb : Below A.heap.size A B) : Held w B a cap fs :=
  ⟨h.X.keep hb, h.R.keep hb, h.H.keep hb, h.ab, h.low.trans (hb.mono h.low.size)⟩
theorem Held.keepS {w A B : World} {a : Option Addr} {cap : Nat} {fs : List Fld} {S : Nat → Prop} (h : Held w A a cap fs) (k : KeepS S A B) (hS : ∀ g, S g → w.heap.size + 2 ≤ g) (hl : Below w.heap.size w B) : Held w B a cap fs := by
  refine ⟨k.box h.X (fun e => by have := hS _ e; omega), k.box h.R (fun e => by have := hS _ e; omega), ?_, h.ab, hl⟩
  by_cases hne : fs = []
  · subst hne; exact At.nil _ _
  · exact k.at_ h.H (fun b off e hs => by have := hS _ hs; have := h.ab b off e hne; omega)
theorem Held.drewN {w A : World} {a : Option Addr} {cap : Nat} {fs : List Fld} (h : Held w A a cap fs) (n : Nat) : Held w (A.drewN n) a cap fs := ⟨h.X.drewN n, h.R.drewN n, h.H.drewN n, h.ab, below_drewN h.low n⟩
/-- what stays through the stores: what was handed in, the iterator's bytes, the second list that was read -/
structure Kp (w W : World) (a : Option Addr) (cap : Nat) (fs : List Fld) (lo hi go : Nat) (v : Value) (F : List UInt8) (ay : Option Addr) (ylo : Nat) : Prop where
  hd : Held w W a cap fs
  kt : KeptT W lo hi go v F
  his : hi ≤ W.heap.size
  y : At W ay (fcells fs)
  yb : ∀ b off, ay = some ⟨b, off, none⟩ → ylo ≤ b
theorem Kp.keep {w A B : World} {a : Option Addr} {cap : Nat} {fs : List Fld} {lo hi go : Nat} {v : Value} {F : List UInt8} {ay : Option Addr} {ylo : Nat} (h : Kp w A a cap fs lo hi go v F ay ylo) (b : Below A.heap.size A B) : Kp w B a cap fs lo hi go v F ay ylo :=
  ⟨h.hd.keep b, h.kt.below b h.his, Nat.le_trans h.his b.size, h.y.keep b, h.yb⟩
theorem Kp.keepS {w A B : World} {a : Option Addr} {cap : Nat} {fs : List Fld} {lo hi go : Nat} {v : Value} {F : List UInt8} {ay : Option Addr} {ylo : Nat} {S : Nat → Prop} (h : Kp w A a cap fs lo hi go v F ay ylo) (k : KeepS S A B) (hS : ∀ g, S g → w.heap.size + 2 ≤ g ∧ (g < lo ∨ hi ≤ g) ∧ g < ylo) (hl : Below w.heap.size w B) : Kp w B a cap fs lo hi go v F ay ylo :=
  ⟨h.hd.keepS k (fun g hg => (hS g hg).1) hl, h.kt.span (k.span h.his (fun g h1 h2 hg => by have := (hS g hg).2.1; omega)), Nat.le_trans h.his k.size, k.at_ h.y (fun b off e hg => by have := h.yb b off e; have := (hS b hg).2.2; omega), h.yb⟩
theorem not_pre {pre : List (Value × Itm)} {x : Value × Itm} {L : List Itm} (h : pre.length < L.length) (hx : x.2 ≠ L[pre.length]) : ¬ (pre ++ [x]).map (·.2) <+: L := by
  rintro ⟨r, e⟩
  apply hx
  have := congrArg (fun l => l[pre.length]?) e
  simp at this
  rw [List.getElem?_eq_getElem h] at this
  simpa using this
theorem count_own (g : Nat) (t : TypeId) (B : Nat) : OwnFrom B (fun (pre : List (Value × Itm)) W => Box W g t #[.int .i64 (pre.length : Nat)]) :=
  fun _ _ _ _ hs hg hr => hs.grown hg (fun r e => (hr r e).2)
theorem own_lt {w : World} {base : Nat} {e : TypeId} {size : Nat} {v : Value} {n : Nat} {xs : List Value} (h : w.ownsRow base e size v n xs) : ∀ k, v.ownBlock = some k → base ≤ k ∧ k < w.heap.size := by
  intro k hk
  rcases h.2 with ⟨rfl, _⟩ | ⟨g, cap, cur, rfl, hb, hg, _⟩
  · cases hk
  · cases hk
    exact ⟨hb, (Array.getElem?_eq_some_iff.1 hg).1⟩
theorem ownM_lt {w : World} {base : Nat} {e : TypeId} {v : Value} {n : Nat} {xs : List Value} (h : ownsM w base e v n xs) : ∀ k, v.ownBlock = some k → base ≤ k ∧ k < w.heap.size := by
  intro k hk
  rcases h.2 with ⟨rfl, _⟩ | ⟨g, cap, cur, fz, rfl, hb, hg, _⟩
  · cases hk
  · cases hk
    exact ⟨hb, (Array.getElem?_eq_some_iff.1 hg).1⟩
theorem ownM_form {w : World} {base : Nat} {e : TypeId} {v : Value} {n : Nat} {xs : List Value} (h : ownsM w base e v n xs) (hn : 0 < n) : ∃ g c, v = .slice (some ⟨g, 0, none⟩) n c ∧ base ≤ g ∧ g < w.heap.size := by
  rcases h.2 with ⟨rfl, h0⟩ | ⟨g, cap, cur, fz, rfl, hb, hg, _⟩
  · omega
  · exact ⟨g, cap, rfl, hb, (Array.getElem?_eq_some_iff.1 hg).1⟩
theorem enc_cases (fs : List Fld) : ((encodeR fs).2 = 0 → validR fs = 0 ∧ (encodeR fs).1 = frameB (bodyB fs)) ∧ ((encodeR fs).2 ≠ 0 → (encodeR fs).1 = []) ∧ (encodeR fs).1.length ≤ 4200 := by
  unfold encodeR
  by_cases hv : validR fs = 0
  · rw [if_pos hv]
    exact ⟨fun _ => ⟨hv, rfl⟩, fun h => absurd rfl h, frame_len _ (valid_iff.1 hv).2⟩
  · rw [if_neg hv]
    exact ⟨fun h => absurd h hv, fun _ => rfl, by simp⟩
theorem ob {g n c k : Nat} (e : (Value.slice (some ⟨g, 0, none⟩) n c).ownBlock = some k) : g = k := by cases e; rfl
theorem quiet_more {P : Program} {f : FuncId} {args : Array Value} {w : World} {n : Nat} {v : Value}
    (h : Calls P f args (w.drewN n) fun e w' => e = .returned v ∧ ∃ k, w' = (w.drewN n).drewN k) : Calls P f args (w.drewN n) fun e w'' => e = .returned v ∧ ∃ m, w'' = w.drewN m :=
  h.mono fun _ _ ⟨he, k, hk⟩ => ⟨he, n + k, hk.trans (World.drewN_drewN _ _ _)⟩
theorem wpList_append_MG {P : Program} {w : World} {ops : Array Oper} {rest : List Oper} {o : Oper} {a : Act} {Q : Exit → Act → World → Prop} (hgd : o.guard = none) (s x : Operand) {t e : TypeId} (E : Elem P t e (.int .u8 0) 1 1)
    (ho : o.op = .call { callee := .builtin .append, args := #[s, x], argTypes := #[t, t] })
    (base : Nat) (v : Value) (n : Nat) (xs : List Value) (hs : a.eval s = v) (hown : ownsM w base e v n xs) (hv : v ≠ .slice none 0 0)
    (A : Option Addr) (m c : Nat) (news : List Value) (hx : a.eval x = .slice A m c) (hl : news.length = m) (hm : A = none → m = 0) (hat : At w A news) (h1 : ∀ u ∈ news, u.oneCell' = true)
    (h63 : n + m ≤ maxLen) (hbytes : n + m ≤ 140737488355328) (hbase : base ≤ w.heap.size)
    (h : ∀ v' w', ownsM w' base e v' (n + m) (xs ++ news) → w.grownBy w' v.ownBlock → wpList P ops Q rest (a.put o.dst v') w') : wpList P ops Q (o :: rest) a w := by
  refine wpList_plain hgd fun K hK => ?_
  obtain ⟨v', w', hrun, h2, h3, h4⟩ := run_append_M (P := P) w E base o.type v n xs hown hv A m c news hl hm hat h1 h63 hbytes hbase
  unfold Oper.wp execOp
  simp only [ho, resolve, invoke, builtin, Sem.run_bind, Sem.run_pure, Result.andThen_ok, List.map_toArray, List.map_cons, List.map_nil, hs, hx, hrun]
  exact hK _ _ (h v' w' h2 h3)
theorem leave0 {P : Program} {F : Fence} {n : Nat} {fn : Func} {tmps : Array Value} {R : Ending → World → Prop} {W : World} (h : ∃ v, (results fn tmps).run P W = .ok v W ∧ R (.returned v) W) : LeavesInM F n P fn tmps R [] .returning W := h
set_option maxHeartbeats 4000000 in
set_option maxRecDepth 100000 in
theorem walk (fs : List Fld) (a : Option Addr) (cap : Nat) (w : World) (hl : fs.length ≤ 5864062014806) (hok : ∀ f ∈ fs, f.2.length ≤ 140737488351232) (hat : At w a (fcells fs)) (E : Env w) :
    Calls Tryd.prog 5 #[.slice a fs.length cap] w fun e w' => e = .returned (.bool true) ∧ Below w.heap.size w w' := by
  have C0 := Lib.hid (fun W (h : Env W) => wakeT_calls W h.pw)
  have C1 := Lib.hid (fun W h => long_calls fs a cap W (by omega) hok h)
  have HE := Lib.hid E
  have X := held_new (cap := cap) hat
  refine (callsIn_wide (n := 9)).1 (callsIn_of_wp_marks Tryd.func5 rfl trivial ?_ rfl)
  refine wpIn_wide.2 ?_
  simp only [Tryd.ntmps5, List.size_toArray, List.length_cons, List.length_nil, Nat.reduceAdd, Nat.reduceSub, Array.replicate_succ, Array.replicate_zero, List.push_toArray, List.append_toArray, List.nil_append, List.cons_append]
  go_upto_region 1 with fail
  generalize (w.alloc (.cells #[.slice a fs.length cap] 22)).alloc (.cells #[.bool false] 4) = w0 at X ⊢
  by_cases hbig : 32768 < sumL fs
  · rw [decide_eq_true hbig] at C1
    clear hbig hat E
    go_upto_region 4 with (first
      | (go_at_call 7; refine (C0.out _ (HE.out.keep X.low)).mono ?_; rintro e w1 ⟨rfl, b1⟩; have X1 := X.keep b1; have c1 := X1.X.cell 0)
      | (go_at_call 8; refine (C1.out _ X1.H).mono ?_; rintro e w2 ⟨rfl, b2⟩; have X2 := X1.keep b2))
    have er := X2.R.frozen 0
    have dr := X2.R.cell 0
    have HX := Lib.hid (X2.R.set 0 (.bool true))
    have HL := Lib.hid (X2.low.setCell (p := ⟨w.heap.size + 1, 0, none⟩) (by simp) (.bool true))
    go_wp2_with fail
    refine leave0 ⟨.bool true, ?_, rfl, HL.out⟩
    have c6 := HX.out.cell 0
    simp at c6
    simp [results, Tryd.f5, go_sem, c6]
  · rw [decide_eq_false hbig] at C1
    have hsl := sumL_len fs
    have E1 := fun g c W h hp => encode_calls fs g c W (by omega) (by omega) h hp
    clear hat E hok
    go_upto_region 5 with (first
      | (go_at_call 7; refine (C0.out _ (HE.out.keep X.low)).mono ?_; rintro e w1 ⟨rfl, b1⟩; have X1 := X.keep b1; have c1 := X1.X.cell 0)
      | (go_at_call 8; refine (C1.out _ X1.H).mono ?_; rintro e w2 ⟨rfl, b2⟩; have X2 := X1.keep b2))
    clear C0 C1 X X1 b1 b2 c1
    have c1 := (X2.keep ((Below.refl w2.heap.size w2).alloc (Nat.le_refl _) (.cells #[] 35))).X.cell 0
    have hfl : fs.length ≤ 32768 := by omega
    go_upto_region 6 with (first
      | (at_builtin; refine wpList_append_at _ rfl (.tmp 26) (.tmp 27) elemF rfl w2.heap.size (.slice (some ⟨w2.heap.size, 0, none⟩) 0 0) 0 [] rfl (owns_empty w2 _ _ _ (Nat.le_refl _)) a fs.length cap (fcells fs) rfl (fcells_len fs) (X2.H.keep ((Below.refl _ _).alloc (Nat.le_refl _) _)) (one_fcells fs) (by unfold maxLen; omega) (by omega) (by simp) ?_; intro v2 w3 own2 bel2 _ _; have hB2 := ((Below.refl w2.heap.size w2).alloc (Nat.le_refl _) _).trans bel2; have z2 := hB2.size; simp only [Nat.zero_add, List.nil_append] at own2)
      | (at_builtin; refine wpList_append_at _ rfl (.tmp 28) (.tmp 30) elemF rfl w2.heap.size v2 fs.length (fcells fs) rfl (own2.alloc _) (some ⟨w3.heap.size, 0, none⟩) 1 1 (fcell (71, [])) rfl rfl (at_alloc w3 (fcell (71, [])).toArray _ _) (by simp [fcell, Value.oneCell']) (by unfold maxLen; omega) (by omega) (by simp; omega) ?_; intro v3 w4 own3 bel3 _ _; have hB3 := (hB2.alloc z2 _).trans bel3; clear own2 bel2 bel3 hB2 z2; obtain ⟨g, c3, rfl, hg1, hg2⟩ := own3.form (by omega)))
    have X4 := X2.keep hB3
    have c4 := X4.X.cell 0
    have O4 := Lib.hid own3
    have hc3 : fs.length + 1 ≤ c3 := by
      obtain ⟨_, _, e, _, h, _, _, _⟩ := at_of_owns own3
      cases e; exact h
    have M4 : At w4 (some ⟨g, 0, none⟩) (fcells fs) := by
      obtain ⟨_, _, e, _, _, hat, _, _⟩ := at_of_owns own3
      cases e
      have := hat.take (fcells fs).length
      rwa [List.take_left] at this
    have hlast : w4.cell? ⟨g, fs.length * 2, none⟩ = some (.int .i64 71) := by
      rw [own3.cellAt (fs.length * 2) (by omega), List.getElem?_append_right (by rw [fcells_len]; omega), fcells_len, Nat.sub_self]; rfl
    have hg4 := World.block_lt_of_cell? w4 _ hlast
    obtain ⟨hE0, hEn, hEl⟩ := enc_cases fs
    generalize encodeR fs = er at *
    obtain ⟨F, fe⟩ := er
    simp only at E1 hE0 hEn hEl
    have E1 := Lib.hid E1
    have HE0 := Lib.hid hE0
    have HEn := Lib.hid hEn
    have hw4 : w.heap.size + 2 ≤ w4.heap.size := X4.R.lt
    clear X2 own3 hB3 c1 hE0 hEn hg1 hg2
    go_upto_region 7 with (go_at_call 9; refine (E1.out _ _ _ M4 (HE.out.pw.keep X4.low)).mono ?_; rintro e w5 ⟨va, rfl, owna, b5⟩; have X5 := X4.keep b5; have c5 := X5.X.cell 0; have M5 := M4.keep b5)
    have hw5 := b5.size
    have hl5 : w5.cell? ⟨g, fs.length * 2, none⟩ = some (.int .i64 71) := (b5.cell hg4).trans hlast
    clear X4 c4 O4 M4 hlast b5
    go_upto_region 8 with (go_at_call 9; refine (E1.out _ _ _ M5 (HE.out.pw.keep X5.low)).mono ?_; rintro e w6 ⟨vb, rfl, ownb, b6⟩; have X6 := X5.keep b6; have c6 := X6.X.cell 0; have M6 := M5.keep b6)
    have hw6 := b6.size
    have hl6 : w6.cell? ⟨g, fs.length * 2, none⟩ = some (.int .i64 71) := (b6.cell (by simp; omega)).trans hl5
    have hga := fun k e => (ownM_lt owna k e)
    have owna6 := owna.below b6
    clear X5 c5 M5 hl5 b6 owna E1
    have s8 := fun n => same_calls (some ⟨g, 0, none⟩) a c3 cap fs fs (w6.drewN n) (by omega) (by omega) (M6.drewN n) (X6.H.drewN n)
    simp only [decide_true] at s8
    have S8 := Lib.hid s8
    clear s8
    have OA6 := Lib.hid owna6
    have OB6 := Lib.hid ownb
    have X6' := Lib.hid X6
    clear owna6 ownb X6 M6
    go_quiet ((first | (go_at_call 11; exact quiet_more (S8.out _))))
    have X8 := X6'.out.drewN nq
    have owna8 := OA6.out.below (below_drewN (Below.refl _ _) nq)
    have ownb8 := OB6.out.below (below_drewN (Below.refl _ _) nq)
    have hw8 : w6.heap.size = (w6.drewN nq).heap.size := rfl
    clear S8 X6' OA6 OB6 c6 hl6
    generalize w6.drewN nq = w8 at *
    have er := X8.R.frozen 0
    have dr := X8.R.cell 0
    by_cases hfe : fe = 0
    · subst hfe
      obtain ⟨hv, hF⟩ := HE0.out rfl
      have hF7 := frameB_len (bodyB fs)
      rw [← hF] at hF7
      have hdec : decodeR F = ((fs, F.length), 0) := by
        have := decode_frame hv []
        rw [List.append_nil, ← hF] at this
        exact this
      have hfr : framesR F = ([(fs, 0)], 0) := by rw [hF]; exact frames_one hv
      have hfs : 0 < fs.length := by
        obtain ⟨⟨_, v, r, e⟩, _⟩ := valid_iff.1 hv
        rw [e]; simp
      have hFl : 0 < F.length := by omega
      clear hF7 hF hv HE0 HEn
      obtain ⟨ga, ca, rfl, ga1, ga2⟩ := ownM_form owna8 hFl
      obtain ⟨gb, cb, rfl, gb1, gb2⟩ := ownM_form ownb8 hFl
      have ga3 := (hga ga rfl).2
      have r12 := run_back_M (P := Tryd.prog) (src := 23) (dst := 9) Tryd.underlying23 Tryd.underlying5 Tryd.underlying9 ownb8 (Below.refl _ w8)
      obtain ⟨_, _, e, hcb, _, atb8⟩ := ownb8.at_
      injection e with e1 e2 e3
      subst e1 e3
      clear e2
      have TD := fun W h E => tdecode_calls F (some ⟨gb, 0, none⟩) cb W (by omega) hcb h E
      unfold DecV at TD
      rw [hdec] at TD
      simp only at TD
      have TD := Lib.hid TD
      have FT := Lib.hid (fun W h => frames_calls (some ⟨gb, 0, none⟩) cb F W (by omega) h)
      clear hdec hga er dr
      go_upto_region 14 with (go_at_call 12; refine (FT.out _ atb8).mono ?_; rintro e w9 ⟨go, v, rfl, K9, b9⟩; unfold seqT; have X9 := X8.keep b9)
      have atb9 := atb8.keep b9
      have owna9 := owna8.below b9
      have ownb9 := ownb8.below b9
      have hw9 := b9.size
      clear X8 atb8 owna8 ownb8 b9 r12 FT
      go_upto_region 15 with (go_at_call 10; refine (TD.out _ atb9 (HE.out.keep X9.low)).mono ?_; rintro e w10 ⟨⟨vx, rfl, ownx⟩, b10⟩; have X10 := X9.keep b10)
      have atb10 := atb9.keep b10
      have owna10 := owna9.below b10
      have ownb10 := ownb9.below b10
      have K10 := K9.below b10 (Nat.le_refl _)
      have hw10 := b10.size
      clear X9 atb9 owna9 ownb9 b10 K9
      go_upto_region 16 with (go_at_call 10; refine (TD.out _ atb10 (HE.out.keep X10.low)).mono ?_; rintro e w11 ⟨⟨vy, rfl, owny⟩, b11⟩; have X11 := X10.keep b11)
      have owna11 := owna10.below b11
      have ownb11 := ownb10.below b11
      have ownx11 := owns_below ownx b11
      have K11 := K10.below b11 hw10
      have hw11 := b11.size
      obtain ⟨gx, cx, rfl, gx1, gx2⟩ := ownx.form (by omega)
      obtain ⟨ay, cy, rfl, _, _, aty, ylt, _⟩ := at_of_owns owny
      have kp : Kp w w11 a cap fs w8.heap.size w9.heap.size go v F ay w10.heap.size := ⟨X11, K11, by omega, aty, fun b off e => (ylt _ e).1⟩
      clear X10 atb10 owna10 ownb10 b11 K10 ownx K11 X11 owny aty ylt TD
      go_wp2_with fail
      go_loopw [87] (fun i wr => ∃ k : Nat, k ≤ F.length ∧ i = .int .i64 k ∧ (∃ l : List UInt8, l.length = F.length ∧ ownsM wr w4.heap.size 5 (.slice (some ⟨ga, 0, none⟩) F.length ca) l.length (u8s l)) ∧ KeepS (fun h => h = ga) w11 wr ∧ Below w.heap.size w wr) (fun i _ => F.length - (intOf i).toNat)
      case atStart => exact ⟨0, by omega, rfl, ⟨F, rfl, owna11⟩, KeepS.refl _ _, kp.hd.low⟩
      case round =>
        obtain ⟨k, hk, rfl, ⟨l, hll, own⟩, hks, hbw⟩ := hrel
        by_cases hlt : k < F.length
        · obtain ⟨hcell, hfro, own'⟩ := own.stored8 (k := k) (by omega) 9
          have O' := Lib.hid own'
          have HB' := Lib.hid (hbw.setCell (p := ⟨ga, k, none⟩) (by simp; omega) (.int .u8 ((9 : UInt8).toNat : Int)))
          have HK' := Lib.hid (hks.trans (KeepS.set (A := wr) (S := fun h => h = ga) (g := ga) (i := k) rfl (.int .u8 ((9 : UInt8).toNat : Int))))
          generalize l[k] = old at hcell
          clear own own' hbw hks
          go_wp2_with fail
          go_roundw
          case rel => exact ⟨k + 1, by omega, by go_num, ⟨l.set k 9, by rw [List.length_set]; exact hll, O'.out⟩, HK'.out, HB'.out⟩
          case measure => simp [intOf]; omega
        · have hzr := hks.size
          have hk11 : KeepS (fun h => h = ga) w11 (wr.alloc (.cells #[.int .u8 1, .int .u8 2, .int .u8 3] 5)) := hks.trans (KeepS.below ((Below.refl _ _).alloc (Nat.le_refl _) _))
          have hbw1 := hbw.alloc hbw.size (.cells #[.int .u8 1, .int .u8 2, .int .u8 3] 5)
          clear hks hbw
          have OW := Lib.hid own
          clear own owna11
          go_upto_region 22 with (at_builtin; refine wpList_append_MG rfl (.tmp 94) (.tmp 95) elem8 rfl w4.heap.size (.slice (some ⟨ga, 0, none⟩) F.length ca) F.length (u8s l) rfl (by have := OW.out.below ((Below.refl wr.heap.size wr).alloc (Nat.le_refl _) (.cells #[.int .u8 1, .int .u8 2, .int .u8 3] 5)); rw [hll] at this; exact this) (by simp) (some ⟨wr.heap.size, 0, none⟩) 3 3 [.int .u8 1, .int .u8 2, .int .u8 3] rfl rfl (by simp) (at_alloc wr #[.int .u8 1, .int .u8 2, .int .u8 3] _ _) (by simp [Value.oneCell']) (by unfold maxLen; omega) (by omega) (by simp; omega) ?_; intro v13 w13 own13 g13; obtain ⟨a13, c13, rfl, _, _, _⟩ := own13.at_)
          have k13 : KeepS (fun h => h = ga) w11 w13 := hk11.trans (KeepS.grown g13 (fun k e => by cases e; rfl))
          have b13 : Below w.heap.size w w13 := hbw1.grown g13 (by simp; omega) (fun k e => by have := ob e; omega)
          have kp13 := kp.keepS k13 (fun g hg => by subst hg; exact ⟨by omega, .inl (by omega), by omega⟩) b13
          have ownb13 := k13.ownsM ownb11 (fun g' e hg => by have := ob e; omega)
          have ownx13 := k13.owns ownx11 (fun g' e hg => by have := ob e; omega)
          have hz13 := k13.size
          clear kp ownb11 ownx11 k13 b13 hk11 hbw1 own13 g13 OW hll
          go_wp2_with fail
          go_loopw [99] (fun i wx => ∃ k : Nat, k ≤ fs.length ∧ i = .int .i64 k ∧ (∃ ys, wx.ownsRow w9.heap.size 35 2 (.slice (some ⟨gx, 0, none⟩) fs.length cx) fs.length ys) ∧ KeepS (fun h => h = gx) w13 wx ∧ Below w.heap.size w wx) (fun i _ => fs.length - (intOf i).toNat)
          case atStart => exact ⟨0, by omega, rfl, ⟨_, ownx13⟩, KeepS.refl _ _, kp13.hd.low⟩
          case round =>
            clear ownx13
            obtain ⟨k2, hk2, rfl, ⟨ys, own⟩, hks, hbw⟩ := hrel
            by_cases hlt2 : k2 < fs.length
            · have hln := own.1
              have hcl := own.cellAt (k2 * 2) (by omega)
              have hcl1 := own.cellAt (k2 * 2 + 1) (by omega)
              rw [List.getElem?_eq_getElem (by omega)] at hcl hcl1
              have hf := own.frozenAt (k2 * 2)
              have hf1 := own.frozenAt (k2 * 2 + 1)
              have hst := Lib.hid (((own.stored (k2 * 2) (.int .i64 0)).1.stored (k2 * 2 + 1) (.string ⟨#[]⟩)).1)
              have hbs := Lib.hid ((hbw.setCell (p := ⟨gx, k2 * 2, none⟩) (by simp; omega) (.int .i64 0)).setCell (p := ⟨gx, k2 * 2 + 1, none⟩) (by simp; omega) (.string ⟨#[]⟩))
              have hos := Lib.hid ((hks.trans (KeepS.set (A := wr) (S := fun h => h = gx) (g := gx) (i := k2 * 2) rfl (.int .i64 0))).trans (KeepS.set (S := fun h => h = gx) (g := gx) (i := k2 * 2 + 1) rfl (.string ⟨#[]⟩)))
              generalize ys[k2 * 2] = old at hcl
              generalize ys[k2 * 2 + 1] = old1 at hcl1
              clear own hln hks hbw
              go_wp2
              go_roundw
              case rel => exact ⟨k2 + 1, by omega, by go_num, ⟨_, hst.out⟩, hos.out, hbs.out⟩
              case measure => simp [intOf]; omega
            · have hzx := hks.size
              have kp14 := kp13.keepS hks (fun g hg => by subst hg; exact ⟨by omega, .inr (by omega), by omega⟩) hbw
              have ownb14 := hks.ownsM ownb13 (fun g' e hg => by have := ob e; omega)
              have c14 := kp14.hd.X.cell 0
              have SMy := Lib.hid (same_calls ay a cy cap fs fs wr (by omega) (by omega) kp14.y kp14.hd.H)
              have r27 := run_back_M (P := Tryd.prog) (src := 23) (dst := 9) Tryd.underlying23 Tryd.underlying5 Tryd.underlying9 ownb14 (Below.refl _ wr)
              have hF3 : ((F.length : Int) + 3 != (F.length : Int) + 3) = false := by simp
              clear kp13 ownb13 hks hbw own
              go_upto_region 29 with (go_at_call 11; refine SMy.out.mono ?_; rintro e w15 ⟨rfl, n15, hw15⟩; have b15 : Below wr.heap.size wr w15 := hw15 ▸ below_drewN (Below.refl _ _) n15; have kp15 := kp14.keep b15; have ownb15 := ownb14.below b15; clear hw15)
              have hz15 := b15.size
              clear kp14 ownb14 SMy r27 c14 b15
              go_wp2_with fail
              go_loopw [127] (fun i wr => ∃ k : Nat, k ≤ F.length ∧ i = .int .i64 k ∧ (∃ l : List UInt8, l.length = F.length ∧ ownsM wr w5.heap.size 5 (.slice (some ⟨gb, 0, none⟩) F.length cb) l.length (u8s l)) ∧ KeepS (fun h => h = gb) w15 wr ∧ Below w.heap.size w wr) (fun i _ => F.length - (intOf i).toNat)
              case atStart => exact ⟨0, by omega, rfl, ⟨F, rfl, ownb15⟩, KeepS.refl _ _, kp15.hd.low⟩
              case round =>
                obtain ⟨k3, hk3, rfl, ⟨l3, hll3, own⟩, hks, hbw⟩ := hrel
                by_cases hlt3 : k3 < F.length
                · obtain ⟨hcell, hfro, own'⟩ := own.stored8 (k := k3) (by omega) 8
                  have O' := Lib.hid own'
                  have HB' := Lib.hid (hbw.setCell (p := ⟨gb, k3, none⟩) (by simp; omega) (.int .u8 ((8 : UInt8).toNat : Int)))
                  have HK' := Lib.hid (hks.trans (KeepS.set (A := wr) (S := fun h => h = gb) (g := gb) (i := k3) rfl (.int .u8 ((8 : UInt8).toNat : Int))))
                  generalize l3[k3] = old at hcell
                  clear own own' hbw hks
                  go_wp2_with fail
                  go_roundw
                  case rel => exact ⟨k3 + 1, by omega, by go_num, ⟨l3.set k3 8, by rw [List.length_set]; exact hll3, O'.out⟩, HK'.out, HB'.out⟩
                  case measure => simp [intOf]; omega
                · have hz16 := hks.size
                  have kp16 := kp15.keepS hks (fun g hg => by subst hg; exact ⟨by omega, .inl (by omega), by omega⟩) hbw
                  clear kp15 hks hbw own ownb15
                  obtain ⟨wz, rfl⟩ : ∃ x, x = wr := ⟨wr, rfl⟩
                  go_wp2_with fail
                  have GN : Box (wz.alloc (.cells #[.int .i64 0] 3)) wz.heap.size 3 #[.int .i64 (0 : Nat)] := Box.new _ _ _
                  have BN := (Below.refl wz.heap.size wz).alloc (Nat.le_refl _) (.cells #[.int .i64 0] 3)
                  have hzN := BN.size
                  have hgN : wz.heap.size < (wz.alloc (.cells #[.int .i64 0] 3)).heap.size := by simp
                  have kpN := kp16.keep BN
                  have hlow := kp16.hd.low.size
                  have hrs := kp16.hd.R.lt
                  have hhi := kp16.his
                  generalize wz.alloc (.cells #[.int .i64 0] 3) = wa at *
                  refine wpIn_wide.1 (wpIn_rangeFunc_handsF (n := 9) (encs := encT) rfl (by decide) (gf := 25) (lb := #[.pointer (some ⟨go, 0, none⟩)]) rfl trivial (enters_of Tryd.func25 (by kernel_rfl) rfl)
                    (frames_hands 8 (by decide) w8.heap.size w9.heap.size go v F (by omega) w HE.out wa kpN.kt kpN.his kpN.hd.low) KeepT.trans (KeepT.put (by omega) (by omega)) (KeepT.refl _ _ _) (Below.refl _ _) (fun _ => rfl) (own_handT _)
                    (fun pre W => Below wz.heap.size wz W ∧ Box W wz.heap.size 3 #[.int .i64 (pre.length : Nat)])
                    (fun _ pre _ => ¬ pre.map (·.2) <+: (framesR F).1)
                    ((ownFrom_below (Nat.le_refl _) hzN).and (count_own _ _ _)) (fun c => own_pure (fun (pre : List (Value × Itm)) => ¬ pre.map (·.2) <+: (framesR F).1) _) ⟨BN, GN⟩
                    _ (by intro l x W K hK; unfold encT; gi_wp2; exact hK) ?body ?done ?stop)
                  case body =>
                    rintro l0 pre x W ⟨hB, hG⟩ hx hlen
                    have KW := kp16.keep hB
                    have cn := hG.cell 0
                    have fn := hG.frozen 0
                    have c1 := KW.hd.X.cell 0
                    have fr := KW.hd.R.frozen 0
                    have cr := KW.hd.R.cell 0
                    have hp0 : pre = [] := by
                      rw [hfr] at hlen
                      exact List.eq_nil_of_length_eq_zero (by simpa using hlen)
                    have HNP := Lib.hid (fun (h : x.2 ≠ (fs, 0)) => not_pre (pre := pre) (x := x) (L := (framesR F).1) hlen (by subst hp0; simp only [hfr]; exact h))
                    obtain ⟨xv, xfs, xe⟩ := x
                    obtain ⟨ax, cx', hxv, hxm, hxat⟩ := hx
                    simp only at hxv hxm hxat HNP
                    subst hxv
                    have SM := Lib.hid (same_calls ax a cx' cap xfs fs W (Nat.le_trans hxm (by decide)) (by omega) hxat KW.hd.H)
                    have hzW := hB.size
                    have hpl : pre.length < 1 := by rw [hp0]; exact Nat.zero_lt_one
                    clear hp0 hxat
                    by_cases he : xe = 0
                    · subst he
                      by_cases hf : xfs = fs
                      · rw [decide_eq_true hf] at SM
                        clear HNP hf
                        gi_wp2_with (first | (refine ⟨trivial, ?_⟩; gi_at_call 11; refine (CallsIn.inRound l0 (callsIn_wide.2 SM.out)).mono ?_; rintro e w2 ⟨rfl, n2, hw2⟩; have b2 : Below W.heap.size W w2 := hw2 ▸ below_drewN (Below.refl _ _) n2; clear hw2; have G2 := hG.keep b2; have dn := G2.cell 0; have en := G2.frozen 0; have K2 := KW.keep b2; have dr := K2.hd.R.cell 0; have er := K2.hd.R.frozen 0; clear cn fn fr cr c1))
                        exact ⟨(keeps_below b2).trans (KeepsOthers.setCell _ _ _), ⟨(Span.below b2 (by omega)).trans (Span.set _ _ _ (.inr (by simp; omega))), (b2.mono (by omega)).trans ((Below.refl _ _).setCell (p := ⟨wz.heap.size, 0, none⟩) (by simp; omega) _)⟩, (hB.trans (b2.mono hzW)).setCell (p := ⟨wz.heap.size, 0, none⟩) (by simp) _, by have := G2.set 0 (.int .i64 ((pre.length : Int) + 1)); simpa using this⟩
                      · rw [decide_eq_false hf] at SM
                        have HX := Lib.hid (HNP.out (by intro h; injection h with h1 h2; exact hf h1))
                        clear HNP hf
                        gi_wp2_with (first | (refine ⟨trivial, ?_⟩; gi_at_call 11; refine (CallsIn.inRound l0 (callsIn_wide.2 SM.out)).mono ?_; rintro e w2 ⟨rfl, n2, hw2⟩; have b2 : Below W.heap.size W w2 := hw2 ▸ below_drewN (Below.refl _ _) n2; clear hw2; have G2 := hG.keep b2; have dn := G2.cell 0; have en := G2.frozen 0; have K2 := KW.keep b2; have dr := K2.hd.R.cell 0; have er := K2.hd.R.frozen 0; clear cn fn fr cr c1))
                        exact ⟨(keeps_below b2).trans (KeepsOthers.setCell _ _ _), HX.out⟩
                    · have heb : (xe != 0) = true := by simpa using he
                      have HX := Lib.hid (HNP.out (by intro h; injection h with h1 h2; exact he h2))
                      clear HNP
                      gi_wp2
                      refine ⟨trivial, ?_⟩
                      gi_wp2
                      exact ⟨KeepsOthers.setCell _ _ _, HX.out⟩
                  case stop =>
                    rintro D c pre W hD ⟨_, hp⟩ h hK
                    exact absurd hp h
                  case done =>
                    rintro D ys W hD hys ⟨hB, hG⟩ hK
                    have hyl := congrArg List.length hys
                    rw [List.length_map, hfr] at hyl
                    have KW := kp16.keep hB
                    have cn := hG.cell 0
                    rw [show ys.length = 1 by simpa using hyl] at cn
                    have er := KW.hd.R.frozen 0
                    have dr := KW.hd.R.cell 0
                    have hM : MarkAt W D := hK
                    have HX1 := Lib.hid (KW.hd.R.set 0 (.bool true))
                    have HL1 := Lib.hid (KW.hd.low.setCell (p := ⟨w.heap.size + 1, 0, none⟩) (by simp) (.bool true))
                    have HM := Lib.hid (KeepsOthers.setCell W ⟨w.heap.size + 1, 0, none⟩ (.bool true))
                    clear hys hyl hG
                    go_wp2_with fail
                    refine leave_marks (B := w.heap.size) [D] _ (by simp; omega) (by simp) (by simp; exact MarkAt.keep hM HM.out) (fun W' hb hx => ?_)
                    have c6 := (hx _ _ _ HX1.out).cell 0
                    simp at c6
                    exact ⟨.bool true, by simp [results, Tryd.f5, go_sem, c6], rfl, HL1.out.trans hb⟩
    · obtain rfl := HEn.out hfe
      obtain ⟨aa, ca, rfl, _, _, _⟩ := owna8.at_
      obtain ⟨ab, cb, rfl, _, _, _⟩ := ownb8.at_
      have hneb : (fe != 0) = true := by simpa using hfe
      have HX := Lib.hid (X8.R.set 0 (.bool true))
      have HL := Lib.hid (X8.low.setCell (p := ⟨w.heap.size + 1, 0, none⟩) (by simp) (.bool true))
      clear HE0 HEn hga
      go_wp2_with fail
      refine leave0 ⟨.bool true, ?_, rfl, HL.out⟩
      have c6 := HX.out.cell 0
      simp at c6
      simp [results, Tryd.f5, go_sem, c6]
set_option maxRecDepth 100000 in
theorem opened (H : Type) (enc : TypeId × Value → H) (W : World) (base : Nat) (args : Array Value) (ds : List (DataW H)) (p : List MemPlace)
    (hval : ∀ (j : Nat) t v, Tryd.f5.params[j]? = some t → args[j]? = some v → Value.okWide Tryd.prog W .any base t v)
    (hA : DataW.TrodAll enc Tryd.prog W 0 (fun _ => true) true Tryd.f5.params.toList args.toList ds p)
    (hr : ∀ x ∈ DataW.weightsEach Tryd.prog Tryd.f5.params.toList ds, x ≤ reachBytes)
    (hL : laidMetH Tryd.prog Rows.tagKeepsRow.laid W) (hS : W.ShapedOpen Tryd.prog) :
    Calls Tryd.prog 5 args W fun e W' => e = .returned (.bool true) ∧ Below W.heap.size W W' := by
  rw [Tryd.params5] at hA hval hr
  obtain ⟨v0, vs0, d0, ds0, p0, q0, hargs, rfl, rfl, h0, r0⟩ := trodAll_cons hA
  obtain ⟨rfl, rfl, rfl⟩ := trodAll_nil r0
  obtain rfl : args = #[v0] := by cases args; simp_all
  obtain ⟨a, fs, cap, rfl, hat, hc, hm, hok⟩ := open_fieldsArg (hval 0 22 v0 rfl rfl) h0 (fun x hx => hr x (weights_each (i := 0) rfl rfl x hx))
  exact walk fs a cap W (by omega) (fun f h => (hok f h).2) hat (env_laid hL hS)
end Go.Proofs.YtokinnkagdjciaaDoor.tagKeeps
