/- Nothing changes but a range of blocks; a ledger in such a range. Written by genonly.py. -/
import Derived.Test.YtmimhimlgbklpaaDoorLedFit
set_option linter.unusedSimpArgs false
set_option linter.unusedVariables false
namespace Go.Proofs.YtmimhimlgbklpaaDoor.LedW
open Go.RowKit Go.Proofs.YtmimhimlgbklpaaDoor.Bas Go.Proofs.YtmimhimlgbklpaaDoor.LedM

structure Only (lo hi : Nat) (W W' : World) : Prop where
  os : W'.os = W.os
  tape : W'.tape = W.tape
  output : W'.output = W.output
  size : W.heap.size ≤ W'.heap.size
  block : ∀ k, k < W.heap.size → (k < lo ∨ hi ≤ k) → W'.heap[k]? = W.heap[k]?
section
variable {lo hi : Nat} {A B C : World}
theorem Only.refl (lo hi : Nat) (A : World) : Only lo hi A A := ⟨rfl, rfl, rfl, Nat.le_refl _, fun _ _ _ => rfl⟩
theorem Only.trans (h : Only lo hi A B) (k : Only lo hi B C) : Only lo hi A C :=
  ⟨k.os.trans h.os, k.tape.trans h.tape, k.output.trans h.output, Nat.le_trans h.size k.size, fun i hi h2 => (k.block i (Nat.lt_of_lt_of_le hi h.size) h2).trans (h.block i hi h2)⟩
theorem Only.of_below (b : Below A.heap.size A B) : Only lo hi A B := ⟨b.os, b.tape, b.output, b.size, fun k hk _ => b.block k hk⟩
theorem Only.drew (h : Only lo hi A B) : Only lo hi A B.drew := ⟨h.os, h.tape, h.output, h.size, h.block⟩
theorem Only.alloc (h : Only lo hi A B) (o : Obj) : Only lo hi A (B.alloc o) := h.trans (.of_below ((Below.refl _ _).alloc (Nat.le_refl _) _))
theorem Only.below (h : Only lo hi A B) (hlo : lo ≤ A.heap.size) : Below lo A B := ⟨h.os, h.tape, h.output, h.size, fun k hk => h.block k (by omega) (.inl hk)⟩
theorem Only.set {g : Nat} (h1 : lo ≤ g) (h2 : g < hi) (k : Nat) (u : Value) : Only lo hi A (A.setCell ⟨g, k, none⟩ u) :=
  ⟨rfl, rfl, rfl, by simp [World.setCell], fun j _ h3 => heap_setCell_other A ⟨g, k, none⟩ j u (fun e => by have e' : j = g := e; omega)⟩
theorem Only.grown {row : Option Nat} (hg : A.grownBy B row) (h : ∀ k, row = some k → lo ≤ k ∧ k < hi) : Only lo hi A B :=
  ⟨hg.os, hg.tape, hg.output, hg.size, fun k hk h2 => hg.block k hk (fun e => by have := h k e.symm; omega)⟩
theorem Only.own (h : Only lo hi A B) {b : Nat} {e : TypeId} {z : Nat} {v : Value} {n : Nat} {xs : List Value} (ho : A.ownsRow b e z v n xs) (hb : hi ≤ b) : B.ownsRow b e z v n xs := by
  refine ⟨ho.1, ?_⟩
  rcases ho.2 with hn | ⟨g, cap, cur, rfl, hbg, hg, rest⟩
  · exact .inl hn
  · refine .inr ⟨g, cap, cur, rfl, hbg, ?_, rest⟩
    rw [h.block g (Array.getElem?_eq_some_iff.1 hg).1 (.inr (by omega))]
    exact hg
theorem Only.led (h : Only lo hi A B) {b : Nat} {s : Lists} {l : Led} {us : List (Value × Acc)} (ho : LedOwn b A s l us) (hb : hi ≤ b) : LedOwn b B s l us :=
  ⟨h.own ho.curs hb, h.own ho.unders hb, h.own ho.instrs hb, h.own ho.accts hb, h.own ho.poss hb, h.own ho.orders hb, h.own ho.avail hb, h.own ho.locs hb, ho.each, fun x hx => h.own (ho.cash x hx) hb, ho.dist, ho.free⟩
theorem Only.box (h : Only lo hi A B) {g : Nat} {t : TypeId} {cs : Array Value} (hb : Box A g t cs) (hg : g < lo ∨ hi ≤ g) : Box B g t cs := by
  unfold Box at hb ⊢
  rw [h.block g (Array.getElem?_eq_some_iff.1 hb).1 hg]
  exact hb
end
/-- the ledger's rows lie below a number -/
structure Top (hi : Nat) (s : Lists) (us : List (Value × Acc)) : Prop where
  t1 : ∀ x, s.a1 = some x → x.block < hi
  t2 : ∀ x, s.a2 = some x → x.block < hi
  t3 : ∀ x, s.a3 = some x → x.block < hi
  t4 : ∀ x, s.a4 = some x → x.block < hi
  t5 : ∀ x, s.a5 = some x → x.block < hi
  t6 : ∀ x, s.a6 = some x → x.block < hi
  t7 : ∀ x, s.a7 = some x → x.block < hi
  t8 : ∀ x, s.a8 = some x → x.block < hi
  cash : ∀ x ∈ us, ∀ g, x.1.ownBlock = some g → g < hi
theorem own_top {W : World} {b : Nat} {e : TypeId} {z : Nat} {a : Option Addr} {m c n : Nat} {xs : List Value} (h : W.ownsRow b e z (.slice a m c) n xs) : ∀ x, a = some x → x.block < W.heap.size := by
  rintro x rfl
  exact (h.lt x.block rfl).2
theorem LedOwn.top {base : Nat} {W : World} {s : Lists} {l : Led} {us : List (Value × Acc)} (h : LedOwn base W s l us) : Top W.heap.size s us :=
  ⟨own_top h.curs, own_top h.unders, own_top h.instrs, own_top h.accts, own_top h.poss, own_top h.orders, own_top h.avail, own_top h.locs, fun x hx g hg => ((h.cash x hx).lt g hg).2⟩
/-- a record of 'curs' is another -/
theorem LedOwn.put_curs {base : Nat} {W W' : World} {s : Lists} {l : Led} {us : List (Value × Acc)} (h : LedOwn base W s l us) {xs : List (Int × Int)} (hl : xs.length = l.curs.length) (hg : W.grownBy W' (Value.slice s.a1 l.curs.length s.c1).ownBlock)
    (hn : W'.ownsRow base 57 2 (.slice s.a1 l.curs.length s.c1) l.curs.length (xs.flatMap curC)) : LedOwn base W' s { l with curs := xs } us := by
  rw [← hl] at hn
  exact ⟨hn, own_grown h.unders hg (own_kinds h.unders h.curs (by decide)), own_grown h.instrs hg (own_kinds h.instrs h.curs (by decide)), own_grown h.accts hg (own_kinds h.accts h.curs (by decide)), own_grown h.poss hg (own_kinds h.poss h.curs (by decide)), own_grown h.orders hg (own_kinds h.orders h.curs (by decide)), own_grown h.avail hg (own_kinds h.avail h.curs (by decide)), own_grown h.locs hg (own_kinds h.locs h.curs (by decide)), h.each, fun x hx => own_grown (h.cash x hx) hg (own_kinds (h.cash x hx) h.curs (by decide)), h.dist, h.free⟩
/-- a record of 'unders' is another -/
theorem LedOwn.put_unders {base : Nat} {W W' : World} {s : Lists} {l : Led} {us : List (Value × Acc)} (h : LedOwn base W s l us) {xs : List Und} (hl : xs.length = l.unders.length) (hg : W.grownBy W' (Value.slice s.a2 l.unders.length s.c2).ownBlock)
    (hn : W'.ownsRow base 26 4 (.slice s.a2 l.unders.length s.c2) l.unders.length (xs.flatMap undC)) : LedOwn base W' s { l with unders := xs } us := by
  rw [← hl] at hn
  exact ⟨own_grown h.curs hg (own_kinds h.curs h.unders (by decide)), hn, own_grown h.instrs hg (own_kinds h.instrs h.unders (by decide)), own_grown h.accts hg (own_kinds h.accts h.unders (by decide)), own_grown h.poss hg (own_kinds h.poss h.unders (by decide)), own_grown h.orders hg (own_kinds h.orders h.unders (by decide)), own_grown h.avail hg (own_kinds h.avail h.unders (by decide)), own_grown h.locs hg (own_kinds h.locs h.unders (by decide)), h.each, fun x hx => own_grown (h.cash x hx) hg (own_kinds (h.cash x hx) h.unders (by decide)), h.dist, h.free⟩
/-- a record of 'instrs' is another -/
theorem LedOwn.put_instrs {base : Nat} {W W' : World} {s : Lists} {l : Led} {us : List (Value × Acc)} (h : LedOwn base W s l us) {xs : List Ins} (hl : xs.length = l.instrs.length) (hg : W.grownBy W' (Value.slice s.a3 l.instrs.length s.c3).ownBlock)
    (hn : W'.ownsRow base 61 7 (.slice s.a3 l.instrs.length s.c3) l.instrs.length (xs.flatMap insC)) : LedOwn base W' s { l with instrs := xs } us := by
  rw [← hl] at hn
  exact ⟨own_grown h.curs hg (own_kinds h.curs h.instrs (by decide)), own_grown h.unders hg (own_kinds h.unders h.instrs (by decide)), hn, own_grown h.accts hg (own_kinds h.accts h.instrs (by decide)), own_grown h.poss hg (own_kinds h.poss h.instrs (by decide)), own_grown h.orders hg (own_kinds h.orders h.instrs (by decide)), own_grown h.avail hg (own_kinds h.avail h.instrs (by decide)), own_grown h.locs hg (own_kinds h.locs h.instrs (by decide)), h.each, fun x hx => own_grown (h.cash x hx) hg (own_kinds (h.cash x hx) h.instrs (by decide)), h.dist, h.free⟩
/-- a record of 'poss' is another -/
theorem LedOwn.put_poss {base : Nat} {W W' : World} {s : Lists} {l : Led} {us : List (Value × Acc)} (h : LedOwn base W s l us) {xs : List Tri} (hl : xs.length = l.poss.length) (hg : W.grownBy W' (Value.slice s.a5 l.poss.length s.c5).ownBlock)
    (hn : W'.ownsRow base 65 3 (.slice s.a5 l.poss.length s.c5) l.poss.length (xs.flatMap triC)) : LedOwn base W' s { l with poss := xs } us := by
  rw [← hl] at hn
  exact ⟨own_grown h.curs hg (own_kinds h.curs h.poss (by decide)), own_grown h.unders hg (own_kinds h.unders h.poss (by decide)), own_grown h.instrs hg (own_kinds h.instrs h.poss (by decide)), own_grown h.accts hg (own_kinds h.accts h.poss (by decide)), hn, own_grown h.orders hg (own_kinds h.orders h.poss (by decide)), own_grown h.avail hg (own_kinds h.avail h.poss (by decide)), own_grown h.locs hg (own_kinds h.locs h.poss (by decide)), h.each, fun x hx => own_grown (h.cash x hx) hg (own_kinds (h.cash x hx) h.poss (by decide)), h.dist, h.free⟩
/-- a record of 'orders' is another -/
theorem LedOwn.put_orders {base : Nat} {W W' : World} {s : Lists} {l : Led} {us : List (Value × Acc)} (h : LedOwn base W s l us) {xs : List Ord} (hl : xs.length = l.orders.length) (hg : W.grownBy W' (Value.slice s.a6 l.orders.length s.c6).ownBlock)
    (hn : W'.ownsRow base 68 5 (.slice s.a6 l.orders.length s.c6) l.orders.length (xs.flatMap ordC)) : LedOwn base W' s { l with orders := xs } us := by
  rw [← hl] at hn
  exact ⟨own_grown h.curs hg (own_kinds h.curs h.orders (by decide)), own_grown h.unders hg (own_kinds h.unders h.orders (by decide)), own_grown h.instrs hg (own_kinds h.instrs h.orders (by decide)), own_grown h.accts hg (own_kinds h.accts h.orders (by decide)), own_grown h.poss hg (own_kinds h.poss h.orders (by decide)), hn, own_grown h.avail hg (own_kinds h.avail h.orders (by decide)), own_grown h.locs hg (own_kinds h.locs h.orders (by decide)), h.each, fun x hx => own_grown (h.cash x hx) hg (own_kinds (h.cash x hx) h.orders (by decide)), h.dist, h.free⟩
/-- a record of 'locs' is another -/
theorem LedOwn.put_locs {base : Nat} {W W' : World} {s : Lists} {l : Led} {us : List (Value × Acc)} (h : LedOwn base W s l us) {xs : List Tri} (hl : xs.length = l.locs.length) (hg : W.grownBy W' (Value.slice s.a8 l.locs.length s.c8).ownBlock)
    (hn : W'.ownsRow base 71 3 (.slice s.a8 l.locs.length s.c8) l.locs.length (xs.flatMap triC)) : LedOwn base W' s { l with locs := xs } us := by
  rw [← hl] at hn
  exact ⟨own_grown h.curs hg (own_kinds h.curs h.locs (by decide)), own_grown h.unders hg (own_kinds h.unders h.locs (by decide)), own_grown h.instrs hg (own_kinds h.instrs h.locs (by decide)), own_grown h.accts hg (own_kinds h.accts h.locs (by decide)), own_grown h.poss hg (own_kinds h.poss h.locs (by decide)), own_grown h.orders hg (own_kinds h.orders h.locs (by decide)), own_grown h.avail hg (own_kinds h.avail h.locs (by decide)), hn, h.each, fun x hx => own_grown (h.cash x hx) hg (own_kinds (h.cash x hx) h.locs (by decide)), h.dist, h.free⟩
/-- an available amount is another -/
theorem LedOwn.put_avail {base : Nat} {W W' : World} {s : Lists} {l : Led} {us : List (Value × Acc)} (h : LedOwn base W s l us) {xs : List Int} (hl : xs.length = l.avail.length) (hg : W.grownBy W' (Value.slice s.a7 l.avail.length s.c7).ownBlock)
    (hn : W'.ownsRow base 3 1 (.slice s.a7 l.avail.length s.c7) l.avail.length (i64s xs)) : LedOwn base W' s { l with avail := xs } us := by
  rw [← hl] at hn
  refine ⟨own_grown h.curs hg (own_kinds h.curs h.avail (by decide)), own_grown h.unders hg (own_kinds h.unders h.avail (by decide)), own_grown h.instrs hg (own_kinds h.instrs h.avail (by decide)), own_grown h.accts hg (own_kinds h.accts h.avail (by decide)), own_grown h.poss hg (own_kinds h.poss h.avail (by decide)), own_grown h.orders hg (own_kinds h.orders h.avail (by decide)), hn, own_grown h.locs hg (own_kinds h.locs h.avail (by decide)), h.each, fun x hx => own_grown (h.cash x hx) hg (h.free x hx).symm, h.dist, ?_⟩
  show ∀ x ∈ us, Apart (.slice s.a7 xs.length s.c7) x.1
  intro x hx g h1 h2
  refine h.free x hx g ?_ h2
  rcases hs : s.a7 with _ | a
  · rw [hs] at h1; cases h1
  · rw [hs] at h1; exact h1
theorem flat_put {α : Type} {f : α → List Value} {n : Nat} (hf : ∀ x, (f x).length = n) (y : α) : ∀ (l : List α) (k : Nat), k < l.length → (l.set k y).flatMap f = (l.flatMap f).take (k * n) ++ f y ++ (l.flatMap f).drop (k * n + n)
  | [], k, hk => absurd hk (Nat.not_lt_zero _)
  | x :: l, 0, _ => by
    simp only [List.set_cons_zero, List.flatMap_cons, Nat.zero_mul, Nat.zero_add, List.take_zero, List.nil_append]
    rw [List.drop_append, List.drop_of_length_le (by rw [hf]; exact Nat.le_refl _), hf, Nat.sub_self, List.drop_zero, List.nil_append]
  | x :: l, k + 1, hk => by
    simp only [List.set_cons_succ, List.flatMap_cons]
    have h1 : (f x).take (k * n + n) = f x := List.take_of_length_le (by rw [hf]; omega)
    have h2 : (f x).drop (k * n + n + n) = [] := List.drop_of_length_le (by rw [hf]; omega)
    rw [flat_put hf y l k (by simpa using hk), Nat.succ_mul, List.take_append, List.drop_append, h1, h2, hf, show k * n + n - n = k * n by omega, show k * n + n + n - n = k * n + n by omega]
    simp only [List.nil_append, List.append_assoc]
/-- cells put one behind the other -/
def setR : List Value → Nat → List Value → List Value
  | xs, _, [] => xs
  | xs, off, v :: r => setR (xs.set off v) (off + 1) r
def putR : World → Nat → Nat → List Value → World
  | W, _, _, [] => W
  | W, g, off, v :: r => putR (W.setCell ⟨g, off, none⟩ v) g (off + 1) r
theorem setR_eq : ∀ (vs xs : List Value) (off : Nat), off + vs.length ≤ xs.length → setR xs off vs = xs.take off ++ vs ++ xs.drop (off + vs.length)
  | [], xs, off, _ => by simp [setR]
  | v :: r, xs, off, h => by
    have h1 : off < xs.length := by simp at h; omega
    unfold setR
    rw [setR_eq r (xs.set off v) (off + 1) (by simp at h ⊢; omega)]
    have e1 : (xs.set off v).take (off + 1) = xs.take off ++ [v] := by
      rw [List.take_succ_eq_append_getElem (by simpa using h1), List.getElem_set_self, List.take_set_of_le (Nat.le_refl _)]
    have e2 : (xs.set off v).drop (off + 1 + r.length) = xs.drop (off + (v :: r).length) := by
      rw [List.drop_set_of_lt (by omega)]
      simp only [List.length_cons]
      congr 1
      omega
    rw [e1, e2]
    simp
theorem flat_setR {α : Type} {f : α → List Value} {n : Nat} (hf : ∀ x, (f x).length = n) (y : α) (l : List α) (k : Nat) (hk : k < l.length) : (l.set k y).flatMap f = setR (l.flatMap f) (k * n) (f y) := by
  have h1 : k * n + n ≤ l.length * n := by
    have := Nat.mul_le_mul_right n (show k + 1 ≤ l.length by omega)
    rw [Nat.succ_mul] at this
    exact this
  rw [flat_put hf y l k hk, setR_eq _ _ _ (by rw [hf, flat_len hf]; exact h1), hf]
theorem grown_trans {A B C : World} {row : Option Nat} (h : A.grownBy B row) (k : B.grownBy C row) : A.grownBy C row :=
  ⟨k.os.trans h.os, k.tape.trans h.tape, k.output.trans h.output, Nat.le_trans h.size k.size, fun i hi hne => (k.block i (Nat.lt_of_lt_of_le hi h.size) hne).trans (h.block i hi hne)⟩
theorem own_putR {b : Nat} {e : TypeId} {z g n c : Nat} : ∀ (vs : List Value) {W : World} {xs : List Value} (off : Nat), W.ownsRow b e z (.slice (some ⟨g, 0, none⟩) n c) n xs → (putR W g off vs).ownsRow b e z (.slice (some ⟨g, 0, none⟩) n c) n (setR xs off vs) ∧ W.grownBy (putR W g off vs) (some g)
  | [], W, xs, off, h => ⟨h, ⟨rfl, rfl, rfl, Nat.le_refl _, fun _ _ _ => rfl⟩⟩
  | v :: r, W, xs, off, h => by
    have h1 := h.stored off v
    have h2 := own_putR r (off + 1) h1.1
    exact ⟨h2.1, grown_trans h1.2 h2.2⟩
theorem own_cell {W : World} {b : Nat} {e : TypeId} {z g n c : Nat} {xs : List Value} (h : W.ownsRow b e z (.slice (some ⟨g, 0, none⟩) n c) n xs) (j : Nat) (hj : j < n * z) : ∃ u, W.cell? ⟨g, j, none⟩ = some u := by
  have hl := h.1
  rw [h.cellAt j hj]
  exact ⟨xs[j]'(by omega), List.getElem?_eq_getElem (by omega)⟩
theorem own_block {W : World} {b : Nat} {e : TypeId} {z n c : Nat} {a : Option Addr} {xs : List Value} (h : W.ownsRow b e z (.slice a n c) n xs) (hn : 0 < n) : ∃ g, a = some ⟨g, 0, none⟩ ∧ b ≤ g ∧ g < W.heap.size := by
  rcases h.2 with ⟨_, h0⟩ | ⟨g, cap, cur, e1, hb, hg, _⟩
  · omega
  · injection e1 with e1
    exact ⟨g, e1, hb, (Array.getElem?_eq_some_iff.1 hg).1⟩
theorem apart_nil_left (v : Value) : Apart (.slice none 0 0) v := fun g h => by simp [Value.ownBlock] at h
theorem apart_nil_right (v : Value) : Apart v (.slice none 0 0) := fun g _ h => by simp [Value.ownBlock] at h
/-- an account is another, without cash -/
theorem LedOwn.put_acct {base : Nat} {W W' : World} {s : Lists} {l : Led} {us : List (Value × Acc)} (h : LedOwn base W s l us) {k : Nat} {a : Acc} (ha : a.cash = []) (hg : W.grownBy W' (Value.slice s.a4 l.accts.length s.c4).ownBlock)
    (hn : W'.ownsRow base 51 4 (.slice s.a4 l.accts.length s.c4) l.accts.length ((us.set k (.slice none 0 0, a)).flatMap accC)) : LedOwn base W' s { l with accts := l.accts.set k a } (us.set k (.slice none 0 0, a)) := by
  have far : ∀ {b e z v' n xs}, W.ownsRow b e z v' n xs → e ≠ 51 → W'.ownsRow b e z v' n xs := fun hh hne => own_grown hh hg (own_kinds hh h.accts hne)
  have hmem : ∀ x ∈ us.set k (.slice none 0 0, a), x ∈ us ∨ x = (.slice none 0 0, a) := fun x hx => List.mem_or_eq_of_mem_set hx
  refine ⟨far h.curs (by decide), far h.unders (by decide), far h.instrs (by decide), ?_, far h.poss (by decide), far h.orders (by decide), far h.avail (by decide), far h.locs (by decide), ?_, ?_, ?_, ?_⟩
  · show W'.ownsRow base 51 4 (.slice s.a4 (l.accts.set k a).length s.c4) (l.accts.set k a).length ((us.set k (.slice none 0 0, a)).flatMap accC)
    rw [List.length_set]
    exact hn
  · show (us.set k (.slice none 0 0, a)).map (·.2) = l.accts.set k a
    rw [List.map_set, h.each]
  · intro x hx
    rcases hmem x hx with hx | rfl
    · exact far (h.cash x hx) (by decide)
    · rw [ha]
      exact World.ownsRow_nil _ _ _ _
  · rw [List.pairwise_iff_getElem]
    have hp := List.pairwise_iff_getElem.1 h.dist
    intro i j hi hj hij
    simp only [List.length_set] at hi hj
    rw [List.getElem_set, List.getElem_set]
    by_cases h1 : k = i
    · rw [if_pos h1]; exact apart_nil_left _
    · rw [if_neg h1]
      by_cases h2 : k = j
      · rw [if_pos h2]; exact apart_nil_right _
      · rw [if_neg h2]; exact hp i j hi hj hij
  · intro x hx
    rcases hmem x hx with hx | rfl
    · exact h.free x hx
    · exact apart_nil_right _
end Go.Proofs.YtmimhimlgbklpaaDoor.LedW
