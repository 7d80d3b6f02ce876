/- A range over a function whose items lie in memory: the iterator tells what it hands (H), the body is told it. No program in sight. -/
import Derived.RangeFuncNested
set_option linter.unusedSimpArgs false
set_option linter.unusedVariables false
namespace Go.Proofs.YtckcnenhnniogaaDoor.Bas
open Go Go.RowKit

/-- an iterator's contract: what it hands is so (H) in the world in which it is handed -/
def SeqHands {α : Type} (F : Fence) (n : Nat) (P : Program) (g : Nat) (lb : Array Value) (encs : α → Array Value) (H : α → World → Prop) (Kp : World → World → Prop) (S Sp : List α → Prop) (N : Nat) (w : World) : Prop :=
  ∀ (l : Nat) (J Jx : List α → World → Prop) (W : World), Below w.heap.size w W → AbidesFrom W.heap.size J → AbidesFrom W.heap.size Jx →
    (∀ pre x W1, J pre W1 → H x W1 → pre.length < N → YieldAt F (n - 1) P l (encs x) W1 fun e W' =>
      (e = .returned (.bool true) ∧ J (pre ++ [x]) W' ∧ Kp W1 W') ∨ (e = .returned (.bool false) ∧ Jx (pre ++ [x]) W')) →
    J [] W →
    CallsIn F n P g (#[.func (.yield l) #[] #[]] ++ lb) W fun e W' => (∃ v, e = .returned v) ∧ ((∃ xs, S xs ∧ J xs W') ∨ (∃ pre, Sp pre ∧ Jx pre W'))

/-- the two blocks of the loop's books -/
structure Books (D : Nat) (r : Loop) (W : World) : Prop where
  rec_ : W.heap[D + 1]? = some (.loop r)
  calls : W.heap[D]? = some (.deferred (some []))
theorem Books.lt {D : Nat} {r : Loop} {W : World} (h : Books D r W) : D + 1 < W.heap.size := (Array.getElem?_eq_some_iff.1 h.rec_).1
theorem Books.put {D : Nat} {r : Loop} {W : World} (h : Books D r W) (r' : Loop) : Books D r' (W.putObj (D + 1) (.loop r')) :=
  ⟨World.putObj_heap_same h.lt, (World.putObj_heap_other (by omega)).trans h.calls⟩
theorem Books.grown {D B : Nat} {r : Loop} {W W' : World} {row : Option Nat} (h : Books D r W) (hg : W.grownBy W' row) (hr : ∀ k, row = some k → B ≤ k ∧ ∃ o : Obj, W.heap[k]? = some o ∧ o.isWalk = true) : Books D r W' :=
  ⟨(grownBy_keeps hg (fun k e => (hr k e).2) h.rec_ rfl).trans h.rec_, (grownBy_keeps hg (fun k e => (hr k e).2) h.calls rfl).trans h.calls⟩
theorem Books.kept {D : Nat} {r : Loop} {W W' : World} (h : Books D r W) (k : KeepsFrom D W W') : Books D r W' := ⟨k.same _ _ (by omega) h.rec_ rfl, k.same _ _ (Nat.le_refl _) h.calls rfl⟩

variable {F : Fence} {n : Nat} {P : Program}

theorem wpIn_rangeFunc_hands {α : Type} {g : Operand} {ps : Array Tmp} {assign body : Code} {Q : Exit → Act → World → Prop} {a : Act} {w : World}
    (hro : F.round = none) (h1 : 1 ≤ n) {gf : Nat} {lb : Array Value} (hg : a.eval g = .func (.func gf) #[] lb) (hFg : F.fn gf) (eg : ∀ args w, (callFunc gf args).run P w = .ok (.enter gf args) w)
    {encs : α → Array Value} {H : α → World → Prop} {Kp : World → World → Prop} {S Sp : List α → Prop} {N : Nat} {w0 : World} (hseq : SeqHands F (n - 1) P gf lb encs H Kp S Sp N w0)
    (hKt : ∀ {A B C : World}, Kp A B → Kp B C → Kp A C) (hKb : ∀ (W : World) (l : Nat) (o o' : Obj), w.heap.size ≤ l → W.heap[l]? = some o → o.isCells = false → o.isWalk = false → Kp W (W.putObj l o')) (hb0 : Below w0.heap.size w0 w) (hps : ∀ x, (encs x).size = ps.size)
    (I : List α → World → Prop) (Ix : Code → List α → World → Prop) (hI : OwnFrom w.heap.size I) (hIx : ∀ c, OwnFrom w.heap.size (Ix c)) (h0 : I [] w) (Ax : α → Act → World → Prop) (hAx : ∀ x a', OwnFrom w.heap.size (fun (_ : Unit) W => Ax x a' W))
    (hassign : ∀ (l : Nat) (pre : List α) (x : α) (W : World) (K : Act → World → Prop), I pre W → H x W → (∀ a' W', KeepsFrom w.heap.size W W' → Kp W W' → I pre W' → Ax x a' W' → K a' W') →
      assign.wpIn (F.inRound l) (n - 1 - 1) P (Exit.then K (fun _ _ _ => False)) { tmps := (ps.zip (encs x)).foldl (fun t (p, v) => t.setIfInBounds p v) a.tmps, defers := [] } W)
    (hbody : ∀ (l : Nat) (pre : List α) (x : α) (a' : Act) (W : World), w.heap.size ≤ l → (∃ r, W.heap[l]? = some (.loop r)) → I pre W → Ax x a' W → pre.length < N → body.wpIn (F.inRound l) (n - 1 - 1) P (ownPostG w.heap.size Kp I Ix (pre ++ [x]) W) a' W)
    (hdone : ∀ (D : Nat) (xs : List α) (W : World), w.heap.size ≤ D → S xs → I xs W → W.heap[D]? = some (.deferred (some [])) → Q .normal { a with defers := { target := .collected D, args := #[] } :: a.defers } W)
    (hstop : ∀ (D : Nat) (c : Code) (pre : List α) (W : World), w.heap.size ≤ D → Sp pre → Ix c pre W → W.heap[D]? = some (.deferred (some [])) → c.wpIn F n P Q { a with defers := { target := .collected D, args := #[] } :: a.defers } W) :
    (Code.rangeFunc g ps assign body).wpIn F n P Q a w := by
  refine wpIn_rangeFunc fun fn hfn => ?_
  rw [hro]
  obtain ⟨R, hR⟩ : ∃ R : LoopState → Option Code → Loop, R = fun st pe => { state := st, pending := pe, fn, tmps := a.tmps, params := ps, assign, body, defers := w.heap.size } := ⟨_, rfl⟩
  obtain ⟨W1, hW1⟩ : ∃ W1, W1 = (w.alloc (.deferred (some []))).alloc (.loop (R .ready none)) := ⟨_, rfl⟩
  have hBk : Books w.heap.size (R .ready none) W1 := by
    rw [hW1]
    refine ⟨?_, (Below.heap_alloc _ _ _ (by simp)).trans (World.alloc_heap_new w _)⟩
    have := World.alloc_heap_new (w.alloc (.deferred (some []))) (.loop (R .ready none))
    rwa [World.size_alloc] at this
  have hz1 : w.heap.size + 2 = W1.heap.size := by rw [hW1]; simp
  have hI1 : I [] W1 := hW1 ▸ hI.alloc _ (hI.alloc _ h0)
  have hb1 : Below w0.heap.size w0 W1 := by
    rw [hW1]
    exact hb0.trans ((((Below.refl _ w).alloc (Nat.le_refl _) _).alloc (by simp) _).mono hb0.size)
  refine ⟨w.heap.size + 1, [{ target := .collected w.heap.size, args := #[] }], W1, { target := .fn (.func gf) lb, args := #[.func (.yield (w.heap.size + 1)) #[] #[]] }, W1, gf,
    #[.func (.yield (w.heap.size + 1)) #[] #[]] ++ lb, W1, ?_, ?_, ?_, ?_, fun _ => h1, ?_⟩
  · rw [hW1, hR]; exact run_enterLoop_outer _ _ _ _ _
  · simp only [resolve, hg]
    simp [go_sem]
  · intro f' hf'
    simp [Target.leads] at hf'
    subst hf'
    exact hFg
  · simp [invoke, go_sem, eg]
  have up : ∀ {A : World} {row : Option Nat}, (∀ r, row = some r → W1.heap.size ≤ r ∧ ∃ o : Obj, A.heap[r]? = some o ∧ o.isWalk = true) → (∀ r, row = some r → w.heap.size ≤ r ∧ ∃ o : Obj, A.heap[r]? = some o ∧ o.isCells = false) := by
    intro A row hr r e
    obtain ⟨hB, o, ho, hw⟩ := hr r e
    exact ⟨by omega, o, ho, Obj.not_cells_of_walk hw⟩
  have call := hseq (w.heap.size + 1) (fun pre W => I pre W ∧ Books w.heap.size (R .ready none) W) (fun pre W => ∃ c, Ix c pre W ∧ Books w.heap.size (R .done (some c)) W) W1 hb1
    (fun s A B row hs hg' hr => ⟨hI s A B row hs.1 hg' (up hr), hs.2.grown hg' hr⟩)
    (fun s A B row ⟨c, hc, hk⟩ hg' hr => ⟨c, hIx c s A B row hc hg' (up hr), hk.grown hg' hr⟩) ?_ ⟨hI1, hBk⟩
  · refine call.mono ?_
    rintro e W2 ⟨⟨v, rfl⟩, h⟩
    rcases h with ⟨xs, hS, hi, hk⟩ | ⟨pre, hSp, c, hi, hk⟩
    · have hend := run_endLoop (P := P) hk.rec_ (by rw [hR]; simp)
      rw [hR] at hend
      exact ⟨none, _, hend, hdone _ xs _ (Nat.le_refl _) hS (hI.putObj _ hi (by omega) hk.rec_ rfl) ((World.putObj_heap_other (by omega)).trans hk.calls)⟩
    · have hend := run_endLoop (P := P) hk.rec_ (by rw [hR]; simp)
      rw [hR] at hend
      exact ⟨some c, _, hend, hstop _ c pre _ (Nat.le_refl _) hSp ((hIx c).putObj _ hi (by omega) hk.rec_ rfl) ((World.putObj_heap_other (by omega)).trans hk.calls)⟩
  · rintro pre x W ⟨hi, hk⟩ hx hlen
    have hy := run_yield (P := P) (args := encs x) hk.rec_ (by rw [hR]; exact hps x)
    rw [hR] at hy
    refine ⟨fn, _, assign, body, hy, roundIn_of_wpIn hfn (hassign _ pre x W _ hi hx ?_)⟩
    intro a' Wa k1 k2 hi1 hax
    have hk1 := hk.kept k1
    have hz := hk1.lt
    have hbegin := run_beginRound (P := P) hk1.rec_ (by rw [hR])
    refine ⟨_, hbegin, ?_⟩
    have hk2 : Books w.heap.size { R .ready none with state := .busy } (Wa.putObj (w.heap.size + 1) (.loop { R .ready none with state := .busy })) := hk1.put _
    have kp2 : Kp Wa (Wa.putObj (w.heap.size + 1) (.loop { R .ready none with state := .busy })) := hKb _ _ _ _ (by omega) hk1.rec_ rfl rfl
    refine wpIn_mono (hbody _ pre x a' _ (by omega) ⟨_, hk2.rec_⟩ (hI.putObj _ hi1 (by omega) hk1.rec_ rfl) ((hAx x a').putObj (s := ()) _ hax (by omega) hk1.rec_ rfl) hlen) ?_
    have fin : ∀ (jump : Option Code) (W3 : World), KeepsFrom w.heap.size (Wa.putObj (w.heap.size + 1) (.loop { R .ready none with state := .busy })) W3 →
        Books w.heap.size { R .ready none with state := .busy } W3 ∧ (Instr.endRound (w.heap.size + 1) jump).run P W3 = .ok (.bool jump.isNone) (W3.putObj (w.heap.size + 1) (.loop (R (if jump.isNone then .ready else .done) jump))) := by
      intro jump W3 k3
      have hk3 := hk2.kept k3
      have := run_endRound (P := P) jump hk3.rec_
      rw [hR] at this ⊢
      rw [hR] at hk3
      exact ⟨hk3, this⟩
    intro e a3 W3 hp
    cases e with
    | normal =>
      obtain ⟨k3, kp3, hi3⟩ := hp
      obtain ⟨hk3, hr⟩ := fin none W3 k3
      exact ⟨_, _, hr, .inl ⟨rfl, ⟨hI.putObj _ hi3 (by omega) hk3.rec_ rfl, hk3.put _⟩, hKt k2 (hKt (hKt kp2 kp3) (hKb _ _ _ _ (by omega) hk3.rec_ rfl rfl))⟩⟩
    | ret =>
      obtain ⟨k3, hi3⟩ := hp
      obtain ⟨hk3, hr⟩ := fin (some .ret) W3 k3
      exact ⟨_, _, hr, .inr ⟨rfl, .ret, (hIx _).putObj _ hi3 (by omega) hk3.rec_ rfl, hk3.put _⟩⟩
    | exit id =>
      obtain ⟨k3, hi3⟩ := hp
      obtain ⟨hk3, hr⟩ := fin (some (.exit id)) W3 k3
      exact ⟨_, _, hr, .inr ⟨rfl, .exit id, (hIx _).putObj _ hi3 (by omega) hk3.rec_ rfl, hk3.put _⟩⟩
    | goto t =>
      obtain ⟨k3, hi3⟩ := hp
      obtain ⟨hk3, hr⟩ := fin (some (.goto t)) W3 k3
      exact ⟨_, _, hr, .inr ⟨rfl, .goto t, (hIx _).putObj _ hi3 (by omega) hk3.rec_ rfl, hk3.put _⟩⟩
    | panic ch => exact hp.elim
    | outgrown => exact hp.elim
/-- the same, where a round's variables lie in no box -/
theorem wpIn_rangeFunc_handsF {α : Type} {g : Operand} {ps : Array Tmp} {assign body : Code} {Q : Exit → Act → World → Prop} {a : Act} {w : World}
    (hro : F.round = none) (h1 : 1 ≤ n) {gf : Nat} {lb : Array Value} (hg : a.eval g = .func (.func gf) #[] lb) (hFg : F.fn gf) (eg : ∀ args w, (callFunc gf args).run P w = .ok (.enter gf args) w)
    {encs : α → Array Value} {H : α → World → Prop} {Kp : World → World → Prop} {S Sp : List α → Prop} {N : Nat} {w0 : World} (hseq : SeqHands F (n - 1) P gf lb encs H Kp S Sp N w0)
    (hKt : ∀ {A B C : World}, Kp A B → Kp B C → Kp A C) (hKb : ∀ (W : World) (l : Nat) (o o' : Obj), w.heap.size ≤ l → W.heap[l]? = some o → o.isCells = false → o.isWalk = false → Kp W (W.putObj l o')) (hKr : ∀ W, Kp W W) (hb0 : Below w0.heap.size w0 w) (hps : ∀ x, (encs x).size = ps.size)
    (hH : OwnFrom w.heap.size H) (I : List α → World → Prop) (Ix : Code → List α → World → Prop) (hI : OwnFrom w.heap.size I) (hIx : ∀ c, OwnFrom w.heap.size (Ix c)) (h0 : I [] w) (a₁ : α → Act)
    (hassign : ∀ (l : Nat) (x : α) (W : World) (K : Act → World → Prop), K (a₁ x) W →
      assign.wpIn (F.inRound l) (n - 1 - 1) P (Exit.then K (fun _ _ _ => False)) { tmps := (ps.zip (encs x)).foldl (fun t (p, v) => t.setIfInBounds p v) a.tmps, defers := [] } W)
    (hbody : ∀ (l : Nat) (pre : List α) (x : α) (W : World), I pre W → H x W → pre.length < N → body.wpIn (F.inRound l) (n - 1 - 1) P (ownPostK Kp I Ix (pre ++ [x]) W) (a₁ x) W)
    (hdone : ∀ (D : Nat) (xs : List α) (W : World), w.heap.size ≤ D → S xs → I xs W → W.heap[D]? = some (.deferred (some [])) → Q .normal { a with defers := { target := .collected D, args := #[] } :: a.defers } W)
    (hstop : ∀ (D : Nat) (c : Code) (pre : List α) (W : World), w.heap.size ≤ D → Sp pre → Ix c pre W → W.heap[D]? = some (.deferred (some [])) → c.wpIn F n P Q { a with defers := { target := .collected D, args := #[] } :: a.defers } W) :
    (Code.rangeFunc g ps assign body).wpIn F n P Q a w :=
  wpIn_rangeFunc_hands hro h1 hg hFg eg hseq (fun h k => hKt h k) hKb hb0 hps I Ix hI hIx h0 (fun x a' W => a' = a₁ x ∧ H x W)
    (fun x a' s X Y row h hg' hr => ⟨h.1, hH x X Y row h.2 hg' hr⟩)
    (fun l pre x W K hi hx hK => hassign l x W K (hK _ _ (KeepsFrom.refl _ _) (hKr W) hi ⟨rfl, hx⟩))
    (fun l pre x a' W _ _ hi ⟨e, hx⟩ hlen => by subst e; exact wpIn_mono (hbody l pre x W hi hx hlen) (fun e a' W' h => ownPostG_of_ownPostK e a' W' h)) hdone hstop

/-- the blocks from lo up to hi stay -/
def Span (lo hi : Nat) (A B : World) : Prop := ∀ g, lo ≤ g → g < hi → B.heap[g]? = A.heap[g]?
theorem Span.refl (lo hi : Nat) (A : World) : Span lo hi A A := fun _ _ _ => rfl
theorem Span.trans {lo hi : Nat} {A B C : World} (h : Span lo hi A B) (k : Span lo hi B C) : Span lo hi A C := fun g h1 h2 => (k g h1 h2).trans (h g h1 h2)
theorem Span.put {lo hi : Nat} {w : World} (hn : hi ≤ w.heap.size) (W : World) (l : Nat) (o' : Obj) (hl : w.heap.size ≤ l) : Span lo hi W (W.putObj l o') :=
  fun _ _ hg => World.putObj_heap_other (by omega)
theorem Span.below {lo hi B : Nat} {W W' : World} (h : Below B W W') (hB : hi ≤ B) : Span lo hi W W' := fun g _ hg => h.block g (by omega)
theorem Span.set {lo hi : Nat} (W : World) (p : Addr) (u : Value) (hp : p.block < lo ∨ hi ≤ p.block) : Span lo hi W (W.setCell p u) := fun g _ _ => Below.heap_setCell W p u g (by omega)
theorem Span.alloc {lo hi : Nat} (W : World) (o : Obj) (h : hi ≤ W.heap.size) : Span lo hi W (W.alloc o) := fun g _ hg => Below.heap_alloc W o g (by omega)
theorem Span.cell {lo hi : Nat} {A B : World} (h : Span lo hi A B) {p : Addr} (h1 : lo ≤ p.block) (h2 : p.block < hi) : B.cell? p = A.cell? p := by
  unfold World.cell?
  rw [h p.block h1 h2]
/-- what a round keeps: those blocks, and all that lay below -/
structure KeepT (base lo hi : Nat) (A B : World) : Prop where
  span : Span lo hi A B
  low : Below base A B
theorem KeepT.refl (base lo hi : Nat) (A : World) : KeepT base lo hi A A := ⟨Span.refl _ _ _, Below.refl _ _⟩
theorem KeepT.trans {base lo hi : Nat} {A B C : World} (h : KeepT base lo hi A B) (k : KeepT base lo hi B C) : KeepT base lo hi A C := ⟨h.span.trans k.span, h.low.trans k.low⟩
theorem KeepT.put {base lo hi : Nat} {w : World} (hb : base ≤ w.heap.size) (hn : hi ≤ w.heap.size) (W : World) (l : Nat) (o o' : Obj) (hl : w.heap.size ≤ l) (h : W.heap[l]? = some o) (h1 : o.isCells = false) (h2 : o.isWalk = false) : KeepT base lo hi W (W.putObj l o') :=
  ⟨Span.put hn W l o' hl, belowK_b hb W l o o' hl h h1 h2⟩
end Go.Proofs.YtckcnenhnniogaaDoor.Bas
