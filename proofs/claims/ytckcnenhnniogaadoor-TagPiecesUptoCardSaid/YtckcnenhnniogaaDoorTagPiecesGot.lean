/- TagPieces: the list of what was read, pushed one by one in a loop over an iterator; what stays. No condition of its own. -/
import Derived.Test.YtckcnenhnniogaaDoorTagSeqT
import Derived.Test.YtckcnenhnniogaaDoorTagPiecesMath
import Derived.Test.YtckcnenhnniogaaDoorBaseApp
set_option linter.unusedSimpArgs false
set_option linter.unusedVariables false
namespace Go.Proofs.YtckcnenhnniogaaDoor.tagPieces
open Go.RowKit Go.Shelf Go.Proofs.YtckcnenhnniogaaDoor.Bas Go.Proofs.YtckcnenhnniogaaDoor.FixpM Go.Proofs.YtckcnenhnniogaaDoor.FldW Go.Proofs.YtckcnenhnniogaaDoor.TagM Go.Proofs.YtckcnenhnniogaaDoor.TagW

/-- kept: all that lies below, and all blocks but those whose cells are lists of fields, or a list of such lists -/
structure KeepG (base : Nat) (A B : World) : Prop where
  low : Below base A B
  rest : ∀ (b : Nat) (o : Obj), A.heap[b]? = some o → (∀ cs sp, o ≠ .cells cs 22 sp) → (∀ cs sp, o ≠ .cells cs 26 sp) → B.heap[b]? = some o
theorem KeepG.refl (base : Nat) (A : World) : KeepG base A A := ⟨Below.refl _ _, fun _ _ h _ _ => h⟩
theorem KeepG.trans {base : Nat} {A B C : World} (h : KeepG base A B) (k : KeepG base B C) : KeepG base A C :=
  ⟨h.low.trans k.low, fun b o ho h1 h2 => k.rest b o (h.rest b o ho h1 h2) h1 h2⟩
theorem KeepG.below {base : Nat} {A B : World} (h : Below A.heap.size A B) (hb : base ≤ A.heap.size) : KeepG base A B :=
  ⟨h.mono hb, fun b o ho _ _ => (h.block b (Array.getElem?_eq_some_iff.1 ho).1).trans ho⟩
theorem KeepG.grown {base : Nat} {A B : World} {row : Option Nat} (hg : A.grownBy B row) (hb : base ≤ A.heap.size) (hr : ∀ k, row = some k → base ≤ k ∧ ∃ cs sp, A.heap[k]? = some (.cells cs 26 sp)) : KeepG base A B :=
  ⟨(Below.refl _ _).grown hg hb (fun k e => (hr k e).1), fun b o ho _ h2 => (hg.block b (Array.getElem?_eq_some_iff.1 ho).1 fun e => by
    obtain ⟨_, cs, sp, hc⟩ := hr b e.symm
    rw [ho] at hc
    cases hc
    exact h2 _ _ rfl).trans ho⟩
theorem KeepG.set {base G : Nat} {A : World} {cs : Array Value} (hB : Box A G 22 cs) (hb : base ≤ G) (i : Nat) (u : Value) : KeepG base A (A.setCell ⟨G, i, none⟩ u) :=
  ⟨(Below.refl _ _).setCell (p := ⟨G, i, none⟩) hb u, fun b o ho h1 _ => (Below.heap_setCell A _ u b fun e => by
    simp only at e
    subst e
    rw [hB] at ho
    cases ho
    exact h1 _ _ rfl).trans ho⟩
theorem KeepG.walk {base N : Nat} {W A C : World} {row : Option Nat} (h : KeepG base W A) (hb : base ≤ W.heap.size) (hN : W.heap.size ≤ N) (hg : A.grownBy C row) (hr : ∀ r, row = some r → N ≤ r) : KeepG base W C :=
  ⟨h.low.trans ((Below.refl _ _).grown hg (Nat.le_trans hb h.low.size) (fun k e => Nat.le_trans (Nat.le_trans hb hN) (hr k e))), fun b o ho h1 h2 => by
    have hA := h.rest b o ho h1 h2
    refine (hg.block b (Array.getElem?_eq_some_iff.1 hA).1 fun e => ?_).trans hA
    have := hr b e.symm
    have := (Array.getElem?_eq_some_iff.1 ho).1
    omega⟩
theorem KeepG.box {base g : Nat} {A B : World} {t : TypeId} {cs : Array Value} (h : KeepG base A B) (hb : Box A g t cs) (h1 : t ≠ 22) (h2 : t ≠ 26) : Box B g t cs :=
  h.rest g _ hb (fun _ _ e => by cases e; exact h1 rfl) (fun _ _ e => by cases e; exact h2 rfl)
theorem KeepG.own {base b z n : Nat} {A B : World} {t : TypeId} {v : Value} {xs : List Value} (h : KeepG base A B) (ho : A.ownsRow b t z v n xs) (h1 : t ≠ 22) (h2 : t ≠ 26) : B.ownsRow b t z v n xs := by
  refine ⟨ho.1, ?_⟩
  rcases ho.2 with hn | ⟨g, cap, cur, rfl, hbg, hg, r⟩
  · exact .inl hn
  · exact .inr ⟨g, cap, cur, rfl, hbg, h.rest g _ hg (fun _ _ e => by cases e; exact h1 rfl) (fun _ _ e => by cases e; exact h2 rfl), r⟩
theorem KeepG.at_ {base : Nat} {A B : World} {t : TypeId} {a : Option Addr} {xs : List Value} (h : KeepG base A B) (ha : AtT A t a xs) (h1 : t ≠ 22) (h2 : t ≠ 26) : AtT B t a xs := by
  have key : ∀ p, a = some p → B.heap[p.block]? = A.heap[p.block]? := fun p hp => by
    obtain ⟨cs, sp, hc⟩ := ha.ty p hp
    rw [hc]
    exact h.rest _ _ hc (fun _ _ e => by cases e; exact h1 rfl) (fun _ _ e => by cases e; exact h2 rfl)
  refine ⟨fun j u hj => ?_, fun p hp => ?_⟩
  · obtain ⟨b, off, rfl, hc⟩ := ha.at_ j u hj
    refine ⟨b, off, rfl, ?_⟩
    rw [← hc]
    unfold World.cell?
    rw [key _ rfl]
  · obtain ⟨cs, sp, hc⟩ := ha.ty p hp
    exact ⟨cs, sp, (key p hp).trans hc⟩
theorem KeepG.mark {base D : Nat} {A B : World} (h : KeepG base A B) (hm : MarkAt A D) : MarkAt B D := h.rest D _ hm (fun _ _ e => by cases e) (fun _ _ e => by cases e)
theorem KeepG.fs {base : Nat} {A B : World} {x : FV} (h : KeepG base A B) (hx : FsT x A) : FsT x B := by
  obtain ⟨a, cap, h1, hm, h2⟩ := hx
  exact ⟨a, cap, h1, hm, h.at_ h2 (by decide) (by decide)⟩
theorem own_box {W : World} {b : Nat} {e t : TypeId} {z g k : Nat} {v u : Value} {n : Nat} {xs : List Value} {cs : Array Value} (h : W.ownsRow b e z v n xs) (hg : Box W g t cs) (hne : e ≠ t) : (W.setCell ⟨g, k, none⟩ u).ownsRow b e z v n xs := by
  refine h.kept (row := some g) ⟨rfl, rfl, rfl, by simp, fun j _ hj => heap_setCell_other W ⟨g, k, none⟩ j u (fun e => hj (by simp [e]))⟩ ?_
  rcases h.2 with ⟨rfl, _⟩ | ⟨g', _, _, rfl, _, hh, _⟩
  · exact .inl rfl
  · refine .inr fun e => ?_
    simp [Value.ownBlock] at e
    subst e
    unfold Box at hg
    rw [hg] at hh
    injection hh with hh
    injection hh with _ ht
    exact hne ht.symm
/-- what was read so far -/
structure GotAt (base G : Nat) (ag : Option Addr) (cg : Nat) (VS : List FV) (W : World) : Prop where
  box : Box W G 22 #[.slice ag VS.length cg]
  own : W.ownsRow base 26 1 (.slice ag VS.length cg) VS.length (VS.map (·.1))
  items : ∀ x ∈ VS, FsT x W
theorem GotAt.keep {base G cg : Nat} {ag : Option Addr} {VS : List FV} {A B : World} (h : GotAt base G ag cg VS A) (b : Below A.heap.size A B) : GotAt base G ag cg VS B :=
  ⟨h.box.keep b, owns_below h.own b, fun x hx => (h.items x hx).keep b⟩
theorem own_walk {A C : World} {row : Option Nat} {b z n : Nat} {t : TypeId} {v : Value} {xs : List Value} (ho : A.ownsRow b t z v n xs) (hg : A.grownBy C row) (hr : ∀ r, row = some r → ∃ o : Obj, A.heap[r]? = some o ∧ o.isCells = false) : C.ownsRow b t z v n xs := by
  refine ⟨ho.1, ?_⟩
  rcases ho.2 with hn | ⟨g, cap, cur, rfl, hbg, hg', r⟩
  · exact .inl hn
  · exact .inr ⟨g, cap, cur, rfl, hbg, (Box.grown (t := t) (cs := cur) hg' hg hr), r⟩
theorem GotAt.walk {base G cg : Nat} {ag : Option Addr} {VS : List FV} {A C : World} {row : Option Nat} (h : GotAt base G ag cg VS A) (hg : A.grownBy C row) (hr : ∀ r, row = some r → ∃ o : Obj, A.heap[r]? = some o ∧ o.isCells = false) : GotAt base G ag cg VS C :=
  ⟨h.box.grown hg hr, own_walk h.own hg hr, fun x hx => (h.items x hx).grown hg hr⟩
/-- one more: a cell laid for it, the append, the store -/
structure Pushed (base G lo hi : Nat) (VS : List FV) (x : FV) (W W' : World) (ag : Option Addr) (cg : Nat) : Prop where
  got : GotAt base G ag cg (VS ++ [x]) W'
  keep : KeepG base W W'
  others : KeepsOthers W W'
  span : Span lo hi W W'
  loc : ∀ g, (Value.slice ag (VS.length + 1) cg).ownBlock = some g → g < lo ∨ hi ≤ g
theorem got_push {base G cg lo hi : Nat} {ag : Option Addr} {VS : List FV} {W w2 : World} {x : FV} {v' : Value} (h : GotAt base G ag cg VS W) (hx : FsT x W) (hG : base ≤ G) (hGl : G < lo) (hb : base ≤ W.heap.size) (hh : hi ≤ W.heap.size) (hl : ∀ g, (Value.slice ag VS.length cg).ownBlock = some g → g < lo ∨ hi ≤ g)
    (own2 : w2.ownsRow base 26 1 v' (VS.length + 1) (VS.map (·.1) ++ [x.1])) (g2 : (W.alloc (.cells #[x.1] 26)).grownBy w2 (Value.slice ag VS.length cg).ownBlock)
    (ob2 : v'.ownBlock = (Value.slice ag VS.length cg).ownBlock ∨ v'.ownBlock = some (W.alloc (.cells #[x.1] 26)).heap.size) :
    ∃ a' c', v' = .slice a' (VS.length + 1) c' ∧ Box w2 G 22 #[.slice ag VS.length cg] ∧ Pushed base G lo hi VS x W (w2.setCell ⟨G, 0, none⟩ v') a' c' := by
  obtain ⟨a', c', rfl, _⟩ := at_of_owns own2
  have B1 : Below W.heap.size W (W.alloc (.cells #[x.1] 26)) := (Below.refl _ _).alloc (Nat.le_refl _) _
  have h1 := h.keep B1
  have hz1 := B1.size
  have hrow : ∀ k, (Value.slice ag VS.length cg).ownBlock = some k → base ≤ k ∧ ∃ cs sp, (W.alloc (.cells #[x.1] 26)).heap[k]? = some (.cells cs 26 sp) := fun k hk => by
    rcases h1.own.2 with ⟨e, _⟩ | ⟨g, cap, cur, e, hbg, hg, _⟩
    · injection e with e1
      subst e1
      simp [Value.ownBlock] at hk
    · injection e with e1
      subst e1
      simp [Value.ownBlock] at hk
      subst hk
      exact ⟨hbg, _, _, hg⟩
  have K1 : KeepG base W (W.alloc (.cells #[x.1] 26)) := .below B1 hb
  have K2 : KeepG base (W.alloc (.cells #[x.1] 26)) w2 := .grown g2 (Nat.le_trans hb hz1) hrow
  have box2 : Box w2 G 22 #[.slice ag VS.length cg] := box_grown h1.box h1.own (by decide) g2
  have K3 := KeepG.set box2 hG 0 (.slice a' (VS.length + 1) c')
  have K := K1.trans (K2.trans K3)
  have own3 : (w2.setCell ⟨G, 0, none⟩ (.slice a' (VS.length + 1) c')).ownsRow base 26 1 (.slice a' (VS.length + 1) c') (VS.length + 1) (VS.map (·.1) ++ [x.1]) := own_box own2 box2 (k := 0) (u := .slice a' (VS.length + 1) c') (by decide)
  have hz2 : (W.alloc (.cells #[x.1] 26)).heap.size ≤ w2.heap.size := K2.low.size
  refine ⟨a', c', rfl, box2, ⟨⟨?_, ?_, ?_⟩, K, ?_, ?_, ?_⟩⟩
  · have := box2.set 0 (.slice a' (VS.length + 1) c')
    simpa using this
  · rw [List.length_append, List.map_append]
    exact own3
  · intro y hy
    rcases List.mem_append.1 hy with hy | hy
    · exact K.fs (h.items y hy)
    · rw [List.mem_singleton.1 hy]; exact K.fs hx
  · refine ((keeps_below B1).trans ⟨hz2, fun k o hk hc => ?_⟩).trans (KeepsOthers.setCell _ _ _)
    exact (g2.block k (Array.getElem?_eq_some_iff.1 hk).1 fun e => by
      obtain ⟨_, cs, sp, hc'⟩ := hrow k e.symm
      rw [hk] at hc'
      cases hc'
      simp [Obj.isCells] at hc).trans hk
  · intro g hg1 hg2
    rw [Below.heap_setCell w2 ⟨G, 0, none⟩ _ g (by simp; omega), g2.block g (by omega) (fun e => by have := hl g e.symm; omega)]
    exact B1.block g (by omega)
  · intro g hg
    rcases ob2 with e | e
    · exact hl g (e.symm.trans hg)
    · rw [hg] at e
      injection e with e
      exact .inr (by omega)
/-- what stays beside it -/
structure Side (w1 : World) (A : List UInt8) (ao : Option Addr) (co : Nat) (cut : List Int) (ac : Option Addr) (cc : Nat) (al : Option Addr) (left : List UInt8) (Ds : List Nat) (W : World) : Prop where
  low : Below w1.heap.size w1 W
  all : W.ownsRow w1.heap.size 5 1 (.slice ao A.length co) A.length (u8s A)
  cuts : W.ownsRow w1.heap.size 3 1 (.slice ac cut.length cc) cut.length (i64s cut)
  left : AtT W 5 al (u8s left)
  marks : ∀ D ∈ Ds, w1.heap.size ≤ D ∧ D < W.heap.size ∧ MarkAt W D
  nodup : Ds.Nodup
theorem Side.keep {w1 A' B' : World} {A : List UInt8} {ao ac al : Option Addr} {co cc : Nat} {cut : List Int} {left : List UInt8} {Ds : List Nat} (h : Side w1 A ao co cut ac cc al left Ds A') (k : KeepG w1.heap.size A' B') : Side w1 A ao co cut ac cc al left Ds B' :=
  ⟨h.low.trans k.low, k.own h.all (by decide) (by decide), k.own h.cuts (by decide) (by decide), k.at_ h.left (by decide) (by decide), fun D hD => by
    obtain ⟨h1, h2, h3⟩ := h.marks D hD
    exact ⟨h1, Nat.lt_of_lt_of_le h2 k.low.size, k.mark h3⟩, h.nodup⟩
/-- the numbers between two pieces -/
structure Nums (gs : List (List Fld)) (A : List UInt8) (cut : List Int) (k j p : Nat) (left : List UInt8) (VS : List FV) : Prop where
  vs : VS.map (·.2) = gs.take j
  jle : j ≤ gs.length
  cat : catF (gs.take j) ++ left = A.take p
  ple : p ≤ A.length
  kle : k ≤ cut.length
  last : k = cut.length → j = gs.length ∧ left = []
theorem fs_map (gs : List (List Fld)) (ys : List (Value × Itm)) (h : ys.map (·.2) = gs.map (fun f => (f, (0 : Int)))) : (ys.map fv).map (·.2) = gs := by
  have := congrArg (List.map (·.1)) h
  rw [List.map_map, List.map_map] at this
  rw [List.map_map]
  rw [show (fun x : FV => x.2) ∘ fv = (fun x : Itm => x.1) ∘ (fun x : Value × Itm => x.2) from rfl, this]
  have h2 : ((fun x : Itm => x.1) ∘ fun f : List Fld => (f, (0 : Int))) = id := rfl
  rw [h2, List.map_id]
/-- a piece more -/
theorem Nums.step {gs : List (List Fld)} {A : List UInt8} {cut : List Int} {k j p : Nat} {left : List UInt8} {VS : List FV} (h : Nums gs A cut k j p left VS) (hv : ∀ g ∈ gs, validR g = 0) (hA : A = catF gs) (hk : k < cut.length) {q : Nat} (hq : p ≤ q) (hq2 : q ≤ A.length) (hc : k + 1 = cut.length → q = A.length) :
    ∃ (m : Nat) (left' : List UInt8), framesR (left ++ (A.drop p).take (q - p)) = (((gs.drop j).take m).map (fun f => (f, (0 : Int))), left'.length) ∧ left'.length ≤ (left ++ (A.drop p).take (q - p)).length ∧ (left ++ (A.drop p).take (q - p)).drop ((left ++ (A.drop p).take (q - p)).length - left'.length) = left' ∧
      ∀ ys : List (Value × Itm), ys.map (·.2) = ((gs.drop j).take m).map (fun f => (f, (0 : Int))) → Nums gs A cut (k + 1) (j + m) q left' (VS ++ ys.map fv) := by
  subst hA
  obtain ⟨m, left', h1, h2, h3, h4, h5, h6⟩ := pieces_step hv h.jle h.cat hq
  refine ⟨m, left', h2, h5, h4, fun ys hys => ⟨?_, h1, h3, hq2, hk, fun e => ?_⟩⟩
  · rw [List.map_append, fs_map _ _ hys, h.vs, List.take_add]
  · exact h6 (hc e)
theorem Nums.stay {gs : List (List Fld)} {A : List UInt8} {cut : List Int} {k j p : Nat} {left : List UInt8} {VS : List FV} (h : Nums gs A cut k j p left VS) (hk : k < cut.length) (hc : k + 1 ≠ cut.length) : Nums gs A cut (k + 1) j p left VS :=
  ⟨h.vs, h.jle, h.cat, h.ple, hk, fun e => absurd e hc⟩
theorem Nums.len {gs : List (List Fld)} {A : List UInt8} {cut : List Int} {k j p : Nat} {left : List UInt8} {VS : List FV} (h : Nums gs A cut k j p left VS) : VS.length = j ∧ left.length ≤ p := by
  have h1 := congrArg List.length h.vs
  have h2 := congrArg List.length h.cat
  have h3 := h.jle
  have h4 := h.ple
  rw [List.length_map, List.length_take] at h1
  rw [List.length_append, List.length_take] at h2
  exact ⟨by omega, by omega⟩
end Go.Proofs.YtckcnenhnniogaaDoor.tagPieces
