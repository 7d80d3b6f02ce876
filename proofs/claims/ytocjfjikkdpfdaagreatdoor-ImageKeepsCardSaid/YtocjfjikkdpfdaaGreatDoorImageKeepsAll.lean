/- ImageKeeps: what is handed in stays and is not kept, what is answered is its own; no condition of its own. -/
import Derived.Test.YtocjfjikkdpfdaaGreatDoorLedB
import Derived.Test.YtocjfjikkdpfdaaGreatDoorImgF
import Derived.Test.YtocjfjikkdpfdaaGreatDoorCards
import Derived.Test.YtocjfjikkdpfdaaGreatDoorTie
import Derived.SevenTiedAt
set_option linter.unusedSimpArgs false
set_option linter.unusedVariables false
namespace Go.Proofs.YtocjfjikkdpfdaaGreatDoor.LedW
open Go.RowKit Go.Proofs.YtocjfjikkdpfdaaGreatDoor.Bas Go.Proofs.YtocjfjikkdpfdaaGreatDoor.LedM Go.Proofs.YtocjfjikkdpfdaaGreatDoor.FixpM

theorem fit_zero : LedFit zeroLed := by
  refine ⟨by decide, ⟨by decide, by decide⟩, ?_, ?_, ?_, ?_, ?_, ?_, ?_, ?_⟩ <;> (intro x hx; simp [zeroLed] at hx)
theorem pay_fit {l l' : Led} {cur amount fr to_ er : Int} (hf : LedFit l) (h : payF l cur amount fr to_ = (l', er)) : LedFit l' := by
  rcases payF_paid h with ⟨_, rfl⟩ | ⟨_, _, _, _, x1, y1, P⟩
  · exact fit_zero
  · rw [P.l']
    exact (hf.set (FixpW.i64_of_fits P.fx)).set (FixpW.i64_of_fits P.fy)
end Go.Proofs.YtocjfjikkdpfdaaGreatDoor.LedW
namespace Go.Proofs.YtocjfjikkdpfdaaGreatDoor.LedW
open Go.RowKit Go.Proofs.YtocjfjikkdpfdaaGreatDoor.Bas Go.Proofs.YtocjfjikkdpfdaaGreatDoor.LedM

structure Only (lo hi : Nat) (W W' : World) : Prop where
  os : W'.os = W.os
  tape : W'.tape = W.tape
  output : W'.output = W.output
  size : W.heap.size ≤ W'.heap.size
  block : ∀ k, k < W.heap.size → (k < lo ∨ hi ≤ k) → W'.heap[k]? = W.heap[k]?
section
variable {lo hi : Nat} {A B C : World}
theorem Only.refl (lo hi : Nat) (A : World) : Only lo hi A A := ⟨rfl, rfl, rfl, Nat.le_refl _, fun _ _ _ => rfl⟩
theorem Only.trans (h : Only lo hi A B) (k : Only lo hi B C) : Only lo hi A C :=
  ⟨k.os.trans h.os, k.tape.trans h.tape, k.output.trans h.output, Nat.le_trans h.size k.size, fun i hi h2 => (k.block i (Nat.lt_of_lt_of_le hi h.size) h2).trans (h.block i hi h2)⟩
theorem Only.of_below (b : Below A.heap.size A B) : Only lo hi A B := ⟨b.os, b.tape, b.output, b.size, fun k hk _ => b.block k hk⟩
theorem Only.drew (h : Only lo hi A B) : Only lo hi A B.drew := ⟨h.os, h.tape, h.output, h.size, h.block⟩
theorem Only.alloc (h : Only lo hi A B) (o : Obj) : Only lo hi A (B.alloc o) := h.trans (.of_below ((Below.refl _ _).alloc (Nat.le_refl _) _))
theorem Only.below (h : Only lo hi A B) (hlo : lo ≤ A.heap.size) : Below lo A B := ⟨h.os, h.tape, h.output, h.size, fun k hk => h.block k (by omega) (.inl hk)⟩
theorem Only.set {g : Nat} (h1 : lo ≤ g) (h2 : g < hi) (k : Nat) (u : Value) : Only lo hi A (A.setCell ⟨g, k, none⟩ u) :=
  ⟨rfl, rfl, rfl, by simp [World.setCell], fun j _ h3 => heap_setCell_other A ⟨g, k, none⟩ j u (fun e => by have e' : j = g := e; omega)⟩
theorem Only.grown {row : Option Nat} (hg : A.grownBy B row) (h : ∀ k, row = some k → lo ≤ k ∧ k < hi) : Only lo hi A B :=
  ⟨hg.os, hg.tape, hg.output, hg.size, fun k hk h2 => hg.block k hk (fun e => by have := h k e.symm; omega)⟩
theorem Only.own (h : Only lo hi A B) {b : Nat} {e : TypeId} {z : Nat} {v : Value} {n : Nat} {xs : List Value} (ho : A.ownsRow b e z v n xs) (hb : hi ≤ b) : B.ownsRow b e z v n xs := by
  refine ⟨ho.1, ?_⟩
  rcases ho.2 with hn | ⟨g, cap, cur, rfl, hbg, hg, rest⟩
  · exact .inl hn
  · refine .inr ⟨g, cap, cur, rfl, hbg, ?_, rest⟩
    rw [h.block g (Array.getElem?_eq_some_iff.1 hg).1 (.inr (by omega))]
    exact hg
theorem Only.led (h : Only lo hi A B) {b : Nat} {s : Lists} {l : Led} {us : List (Value × Acc)} (ho : LedOwn b A s l us) (hb : hi ≤ b) : LedOwn b B s l us :=
  ⟨h.own ho.curs hb, h.own ho.unders hb, h.own ho.instrs hb, h.own ho.accts hb, h.own ho.poss hb, h.own ho.orders hb, h.own ho.avail hb, h.own ho.locs hb, ho.each, fun x hx => h.own (ho.cash x hx) hb, ho.dist, ho.free⟩
theorem Only.box (h : Only lo hi A B) {g : Nat} {t : TypeId} {cs : Array Value} (hb : Box A g t cs) (hg : g < lo ∨ hi ≤ g) : Box B g t cs := by
  unfold Box at hb ⊢
  rw [h.block g (Array.getElem?_eq_some_iff.1 hb).1 hg]
  exact hb
end
/-- the ledger's rows lie below a number -/
structure Top (hi : Nat) (s : Lists) (us : List (Value × Acc)) : Prop where
  t1 : ∀ x, s.a1 = some x → x.block < hi
  t2 : ∀ x, s.a2 = some x → x.block < hi
  t3 : ∀ x, s.a3 = some x → x.block < hi
  t4 : ∀ x, s.a4 = some x → x.block < hi
  t5 : ∀ x, s.a5 = some x → x.block < hi
  t6 : ∀ x, s.a6 = some x → x.block < hi
  t7 : ∀ x, s.a7 = some x → x.block < hi
  t8 : ∀ x, s.a8 = some x → x.block < hi
  cash : ∀ x ∈ us, ∀ g, x.1.ownBlock = some g → g < hi
theorem own_top {W : World} {b : Nat} {e : TypeId} {z : Nat} {a : Option Addr} {m c n : Nat} {xs : List Value} (h : W.ownsRow b e z (.slice a m c) n xs) : ∀ x, a = some x → x.block < W.heap.size := by
  rintro x rfl
  exact (h.lt x.block rfl).2
theorem LedOwn.top {base : Nat} {W : World} {s : Lists} {l : Led} {us : List (Value × Acc)} (h : LedOwn base W s l us) : Top W.heap.size s us :=
  ⟨own_top h.curs, own_top h.unders, own_top h.instrs, own_top h.accts, own_top h.poss, own_top h.orders, own_top h.avail, own_top h.locs, fun x hx g hg => ((h.cash x hx).lt g hg).2⟩
/-- a record of 'curs' is another -/
theorem LedOwn.put_curs {base : Nat} {W W' : World} {s : Lists} {l : Led} {us : List (Value × Acc)} (h : LedOwn base W s l us) {xs : List (Int × Int)} (hl : xs.length = l.curs.length) (hg : W.grownBy W' (Value.slice s.a1 l.curs.length s.c1).ownBlock)
    (hn : W'.ownsRow base 55 2 (.slice s.a1 l.curs.length s.c1) l.curs.length (xs.flatMap curC)) : LedOwn base W' s { l with curs := xs } us := by
  rw [← hl] at hn
  exact ⟨hn, own_grown h.unders hg (own_kinds h.unders h.curs (by decide)), own_grown h.instrs hg (own_kinds h.instrs h.curs (by decide)), own_grown h.accts hg (own_kinds h.accts h.curs (by decide)), own_grown h.poss hg (own_kinds h.poss h.curs (by decide)), own_grown h.orders hg (own_kinds h.orders h.curs (by decide)), own_grown h.avail hg (own_kinds h.avail h.curs (by decide)), own_grown h.locs hg (own_kinds h.locs h.curs (by decide)), h.each, fun x hx => own_grown (h.cash x hx) hg (own_kinds (h.cash x hx) h.curs (by decide)), h.dist, h.free⟩
/-- a record of 'unders' is another -/
theorem LedOwn.put_unders {base : Nat} {W W' : World} {s : Lists} {l : Led} {us : List (Value × Acc)} (h : LedOwn base W s l us) {xs : List Und} (hl : xs.length = l.unders.length) (hg : W.grownBy W' (Value.slice s.a2 l.unders.length s.c2).ownBlock)
    (hn : W'.ownsRow base 57 4 (.slice s.a2 l.unders.length s.c2) l.unders.length (xs.flatMap undC)) : LedOwn base W' s { l with unders := xs } us := by
  rw [← hl] at hn
  exact ⟨own_grown h.curs hg (own_kinds h.curs h.unders (by decide)), hn, own_grown h.instrs hg (own_kinds h.instrs h.unders (by decide)), own_grown h.accts hg (own_kinds h.accts h.unders (by decide)), own_grown h.poss hg (own_kinds h.poss h.unders (by decide)), own_grown h.orders hg (own_kinds h.orders h.unders (by decide)), own_grown h.avail hg (own_kinds h.avail h.unders (by decide)), own_grown h.locs hg (own_kinds h.locs h.unders (by decide)), h.each, fun x hx => own_grown (h.cash x hx) hg (own_kinds (h.cash x hx) h.unders (by decide)), h.dist, h.free⟩
/-- a record of 'instrs' is another -/
theorem LedOwn.put_instrs {base : Nat} {W W' : World} {s : Lists} {l : Led} {us : List (Value × Acc)} (h : LedOwn base W s l us) {xs : List Ins} (hl : xs.length = l.instrs.length) (hg : W.grownBy W' (Value.slice s.a3 l.instrs.length s.c3).ownBlock)
    (hn : W'.ownsRow base 60 7 (.slice s.a3 l.instrs.length s.c3) l.instrs.length (xs.flatMap insC)) : LedOwn base W' s { l with instrs := xs } us := by
  rw [← hl] at hn
  exact ⟨own_grown h.curs hg (own_kinds h.curs h.instrs (by decide)), own_grown h.unders hg (own_kinds h.unders h.instrs (by decide)), hn, own_grown h.accts hg (own_kinds h.accts h.instrs (by decide)), own_grown h.poss hg (own_kinds h.poss h.instrs (by decide)), own_grown h.orders hg (own_kinds h.orders h.instrs (by decide)), own_grown h.avail hg (own_kinds h.avail h.instrs (by decide)), own_grown h.locs hg (own_kinds h.locs h.instrs (by decide)), h.each, fun x hx => own_grown (h.cash x hx) hg (own_kinds (h.cash x hx) h.instrs (by decide)), h.dist, h.free⟩
/-- a record of 'poss' is another -/
theorem LedOwn.put_poss {base : Nat} {W W' : World} {s : Lists} {l : Led} {us : List (Value × Acc)} (h : LedOwn base W s l us) {xs : List Tri} (hl : xs.length = l.poss.length) (hg : W.grownBy W' (Value.slice s.a5 l.poss.length s.c5).ownBlock)
    (hn : W'.ownsRow base 63 3 (.slice s.a5 l.poss.length s.c5) l.poss.length (xs.flatMap triC)) : LedOwn base W' s { l with poss := xs } us := by
  rw [← hl] at hn
  exact ⟨own_grown h.curs hg (own_kinds h.curs h.poss (by decide)), own_grown h.unders hg (own_kinds h.unders h.poss (by decide)), own_grown h.instrs hg (own_kinds h.instrs h.poss (by decide)), own_grown h.accts hg (own_kinds h.accts h.poss (by decide)), hn, own_grown h.orders hg (own_kinds h.orders h.poss (by decide)), own_grown h.avail hg (own_kinds h.avail h.poss (by decide)), own_grown h.locs hg (own_kinds h.locs h.poss (by decide)), h.each, fun x hx => own_grown (h.cash x hx) hg (own_kinds (h.cash x hx) h.poss (by decide)), h.dist, h.free⟩
/-- a record of 'orders' is another -/
theorem LedOwn.put_orders {base : Nat} {W W' : World} {s : Lists} {l : Led} {us : List (Value × Acc)} (h : LedOwn base W s l us) {xs : List Ord} (hl : xs.length = l.orders.length) (hg : W.grownBy W' (Value.slice s.a6 l.orders.length s.c6).ownBlock)
    (hn : W'.ownsRow base 65 5 (.slice s.a6 l.orders.length s.c6) l.orders.length (xs.flatMap ordC)) : LedOwn base W' s { l with orders := xs } us := by
  rw [← hl] at hn
  exact ⟨own_grown h.curs hg (own_kinds h.curs h.orders (by decide)), own_grown h.unders hg (own_kinds h.unders h.orders (by decide)), own_grown h.instrs hg (own_kinds h.instrs h.orders (by decide)), own_grown h.accts hg (own_kinds h.accts h.orders (by decide)), own_grown h.poss hg (own_kinds h.poss h.orders (by decide)), hn, own_grown h.avail hg (own_kinds h.avail h.orders (by decide)), own_grown h.locs hg (own_kinds h.locs h.orders (by decide)), h.each, fun x hx => own_grown (h.cash x hx) hg (own_kinds (h.cash x hx) h.orders (by decide)), h.dist, h.free⟩
/-- a record of 'locs' is another -/
theorem LedOwn.put_locs {base : Nat} {W W' : World} {s : Lists} {l : Led} {us : List (Value × Acc)} (h : LedOwn base W s l us) {xs : List Tri} (hl : xs.length = l.locs.length) (hg : W.grownBy W' (Value.slice s.a8 l.locs.length s.c8).ownBlock)
    (hn : W'.ownsRow base 66 3 (.slice s.a8 l.locs.length s.c8) l.locs.length (xs.flatMap triC)) : LedOwn base W' s { l with locs := xs } us := by
  rw [← hl] at hn
  exact ⟨own_grown h.curs hg (own_kinds h.curs h.locs (by decide)), own_grown h.unders hg (own_kinds h.unders h.locs (by decide)), own_grown h.instrs hg (own_kinds h.instrs h.locs (by decide)), own_grown h.accts hg (own_kinds h.accts h.locs (by decide)), own_grown h.poss hg (own_kinds h.poss h.locs (by decide)), own_grown h.orders hg (own_kinds h.orders h.locs (by decide)), own_grown h.avail hg (own_kinds h.avail h.locs (by decide)), hn, h.each, fun x hx => own_grown (h.cash x hx) hg (own_kinds (h.cash x hx) h.locs (by decide)), h.dist, h.free⟩
/-- an available amount is another -/
theorem LedOwn.put_avail {base : Nat} {W W' : World} {s : Lists} {l : Led} {us : List (Value × Acc)} (h : LedOwn base W s l us) {xs : List Int} (hl : xs.length = l.avail.length) (hg : W.grownBy W' (Value.slice s.a7 l.avail.length s.c7).ownBlock)
    (hn : W'.ownsRow base 3 1 (.slice s.a7 l.avail.length s.c7) l.avail.length (i64s xs)) : LedOwn base W' s { l with avail := xs } us := by
  rw [← hl] at hn
  refine ⟨own_grown h.curs hg (own_kinds h.curs h.avail (by decide)), own_grown h.unders hg (own_kinds h.unders h.avail (by decide)), own_grown h.instrs hg (own_kinds h.instrs h.avail (by decide)), own_grown h.accts hg (own_kinds h.accts h.avail (by decide)), own_grown h.poss hg (own_kinds h.poss h.avail (by decide)), own_grown h.orders hg (own_kinds h.orders h.avail (by decide)), hn, own_grown h.locs hg (own_kinds h.locs h.avail (by decide)), h.each, fun x hx => own_grown (h.cash x hx) hg (h.free x hx).symm, h.dist, ?_⟩
  show ∀ x ∈ us, Apart (.slice s.a7 xs.length s.c7) x.1
  intro x hx g h1 h2
  refine h.free x hx g ?_ h2
  rcases hs : s.a7 with _ | a
  · rw [hs] at h1; cases h1
  · rw [hs] at h1; exact h1
theorem flat_put {α : Type} {f : α → List Value} {n : Nat} (hf : ∀ x, (f x).length = n) (y : α) : ∀ (l : List α) (k : Nat), k < l.length → (l.set k y).flatMap f = (l.flatMap f).take (k * n) ++ f y ++ (l.flatMap f).drop (k * n + n)
  | [], k, hk => absurd hk (Nat.not_lt_zero _)
  | x :: l, 0, _ => by
    simp only [List.set_cons_zero, List.flatMap_cons, Nat.zero_mul, Nat.zero_add, List.take_zero, List.nil_append]
    rw [List.drop_append, List.drop_of_length_le (by rw [hf]; exact Nat.le_refl _), hf, Nat.sub_self, List.drop_zero, List.nil_append]
  | x :: l, k + 1, hk => by
    simp only [List.set_cons_succ, List.flatMap_cons]
    have h1 : (f x).take (k * n + n) = f x := List.take_of_length_le (by rw [hf]; omega)
    have h2 : (f x).drop (k * n + n + n) = [] := List.drop_of_length_le (by rw [hf]; omega)
    rw [flat_put hf y l k (by simpa using hk), Nat.succ_mul, List.take_append, List.drop_append, h1, h2, hf, show k * n + n - n = k * n by omega, show k * n + n + n - n = k * n + n by omega]
    simp only [List.nil_append, List.append_assoc]
/-- cells put one behind the other -/
def setR : List Value → Nat → List Value → List Value
  | xs, _, [] => xs
  | xs, off, v :: r => setR (xs.set off v) (off + 1) r
def putR : World → Nat → Nat → List Value → World
  | W, _, _, [] => W
  | W, g, off, v :: r => putR (W.setCell ⟨g, off, none⟩ v) g (off + 1) r
theorem setR_eq : ∀ (vs xs : List Value) (off : Nat), off + vs.length ≤ xs.length → setR xs off vs = xs.take off ++ vs ++ xs.drop (off + vs.length)
  | [], xs, off, _ => by simp [setR]
  | v :: r, xs, off, h => by
    have h1 : off < xs.length := by simp at h; omega
    unfold setR
    rw [setR_eq r (xs.set off v) (off + 1) (by simp at h ⊢; omega)]
    have e1 : (xs.set off v).take (off + 1) = xs.take off ++ [v] := by
      rw [List.take_succ_eq_append_getElem (by simpa using h1), List.getElem_set_self, List.take_set_of_le (Nat.le_refl _)]
    have e2 : (xs.set off v).drop (off + 1 + r.length) = xs.drop (off + (v :: r).length) := by
      rw [List.drop_set_of_lt (by omega)]
      simp only [List.length_cons]
      congr 1
      omega
    rw [e1, e2]
    simp
theorem flat_setR {α : Type} {f : α → List Value} {n : Nat} (hf : ∀ x, (f x).length = n) (y : α) (l : List α) (k : Nat) (hk : k < l.length) : (l.set k y).flatMap f = setR (l.flatMap f) (k * n) (f y) := by
  have h1 : k * n + n ≤ l.length * n := by
    have := Nat.mul_le_mul_right n (show k + 1 ≤ l.length by omega)
    rw [Nat.succ_mul] at this
    exact this
  rw [flat_put hf y l k hk, setR_eq _ _ _ (by rw [hf, flat_len hf]; exact h1), hf]
theorem grown_trans {A B C : World} {row : Option Nat} (h : A.grownBy B row) (k : B.grownBy C row) : A.grownBy C row :=
  ⟨k.os.trans h.os, k.tape.trans h.tape, k.output.trans h.output, Nat.le_trans h.size k.size, fun i hi hne => (k.block i (Nat.lt_of_lt_of_le hi h.size) hne).trans (h.block i hi hne)⟩
theorem own_putR {b : Nat} {e : TypeId} {z g n c : Nat} : ∀ (vs : List Value) {W : World} {xs : List Value} (off : Nat), W.ownsRow b e z (.slice (some ⟨g, 0, none⟩) n c) n xs → (putR W g off vs).ownsRow b e z (.slice (some ⟨g, 0, none⟩) n c) n (setR xs off vs) ∧ W.grownBy (putR W g off vs) (some g)
  | [], W, xs, off, h => ⟨h, ⟨rfl, rfl, rfl, Nat.le_refl _, fun _ _ _ => rfl⟩⟩
  | v :: r, W, xs, off, h => by
    have h1 := h.stored off v
    have h2 := own_putR r (off + 1) h1.1
    exact ⟨h2.1, grown_trans h1.2 h2.2⟩
theorem own_cell {W : World} {b : Nat} {e : TypeId} {z g n c : Nat} {xs : List Value} (h : W.ownsRow b e z (.slice (some ⟨g, 0, none⟩) n c) n xs) (j : Nat) (hj : j < n * z) : ∃ u, W.cell? ⟨g, j, none⟩ = some u := by
  have hl := h.1
  rw [h.cellAt j hj]
  exact ⟨xs[j]'(by omega), List.getElem?_eq_getElem (by omega)⟩
theorem own_block {W : World} {b : Nat} {e : TypeId} {z n c : Nat} {a : Option Addr} {xs : List Value} (h : W.ownsRow b e z (.slice a n c) n xs) (hn : 0 < n) : ∃ g, a = some ⟨g, 0, none⟩ ∧ b ≤ g ∧ g < W.heap.size := by
  rcases h.2 with ⟨_, h0⟩ | ⟨g, cap, cur, e1, hb, hg, _⟩
  · omega
  · injection e1 with e1
    exact ⟨g, e1, hb, (Array.getElem?_eq_some_iff.1 hg).1⟩
theorem apart_nil_left (v : Value) : Apart (.slice none 0 0) v := fun g h => by simp [Value.ownBlock] at h
theorem apart_nil_right (v : Value) : Apart v (.slice none 0 0) := fun g _ h => by simp [Value.ownBlock] at h
/-- an account is another, without cash -/
theorem LedOwn.put_acct {base : Nat} {W W' : World} {s : Lists} {l : Led} {us : List (Value × Acc)} (h : LedOwn base W s l us) {k : Nat} {a : Acc} (ha : a.cash = []) (hg : W.grownBy W' (Value.slice s.a4 l.accts.length s.c4).ownBlock)
    (hn : W'.ownsRow base 46 4 (.slice s.a4 l.accts.length s.c4) l.accts.length ((us.set k (.slice none 0 0, a)).flatMap accC)) : LedOwn base W' s { l with accts := l.accts.set k a } (us.set k (.slice none 0 0, a)) := by
  have far : ∀ {b e z v' n xs}, W.ownsRow b e z v' n xs → e ≠ 46 → W'.ownsRow b e z v' n xs := fun hh hne => own_grown hh hg (own_kinds hh h.accts hne)
  have hmem : ∀ x ∈ us.set k (.slice none 0 0, a), x ∈ us ∨ x = (.slice none 0 0, a) := fun x hx => List.mem_or_eq_of_mem_set hx
  refine ⟨far h.curs (by decide), far h.unders (by decide), far h.instrs (by decide), ?_, far h.poss (by decide), far h.orders (by decide), far h.avail (by decide), far h.locs (by decide), ?_, ?_, ?_, ?_⟩
  · show W'.ownsRow base 46 4 (.slice s.a4 (l.accts.set k a).length s.c4) (l.accts.set k a).length ((us.set k (.slice none 0 0, a)).flatMap accC)
    rw [List.length_set]
    exact hn
  · show (us.set k (.slice none 0 0, a)).map (·.2) = l.accts.set k a
    rw [List.map_set, h.each]
  · intro x hx
    rcases hmem x hx with hx | rfl
    · exact far (h.cash x hx) (by decide)
    · rw [ha]
      exact World.ownsRow_nil _ _ _ _
  · rw [List.pairwise_iff_getElem]
    have hp := List.pairwise_iff_getElem.1 h.dist
    intro i j hi hj hij
    simp only [List.length_set] at hi hj
    rw [List.getElem_set, List.getElem_set]
    by_cases h1 : k = i
    · rw [if_pos h1]; exact apart_nil_left _
    · rw [if_neg h1]
      by_cases h2 : k = j
      · rw [if_pos h2]; exact apart_nil_right _
      · rw [if_neg h2]; exact hp i j hi hj hij
  · intro x hx
    rcases hmem x hx with hx | rfl
    · exact h.free x hx
    · exact apart_nil_right _
end Go.Proofs.YtocjfjikkdpfdaaGreatDoor.LedW
namespace Go.Proofs.YtocjfjikkdpfdaaGreatDoor.ImgW
open Go.RowKit Go.Proofs.YtocjfjikkdpfdaaGreatDoor.Bas Go.Proofs.YtocjfjikkdpfdaaGreatDoor.LedM Go.Proofs.YtocjfjikkdpfdaaGreatDoor.LedW

/-- a ledger that is being spoilt: m for l; its box lies at gb -/
structure SQ (lo hi gb : Nat) (w W : World) (s : Lists) (l m : Led) (us : List (Value × Acc)) : Prop where
  own : LedOwn lo W s m us
  top : Top hi s us
  only : Only lo hi w W
  box : Box W gb 31 #[.int .i64 l.day, .slice s.a1 l.curs.length s.c1, .slice s.a2 l.unders.length s.c2, .slice s.a3 l.instrs.length s.c3, .slice s.a4 l.accts.length s.c4, .slice s.a5 l.poss.length s.c5, .slice s.a6 l.orders.length s.c6, .slice s.a7 l.avail.length s.c7, .slice s.a8 l.locs.length s.c8]
  len : m.accts.length = l.accts.length ∧ m.avail.length = l.avail.length
  big : hi ≤ gb
section
variable {lo hi gb : Nat} {w W : World} {s : Lists} {l m : Led} {us : List (Value × Acc)}
theorem boxq_putR {g g' : Nat} {t : TypeId} {cs : Array Value} (hne : g' ≠ g) : ∀ (vs : List Value) {W : World} (off : Nat), Box W g' t cs → Box (putR W g off vs) g' t cs
  | [], _, _, h => h
  | v :: r, _, off, h => boxq_putR hne r (off + 1) (h.far (p := ⟨g, off, none⟩) hne v)
theorem onlyq_putR {lo hi g : Nat} (h1 : lo ≤ g) (h2 : g < hi) : ∀ (vs : List Value) {w W : World} (off : Nat), Only lo hi w W → Only lo hi w (putR W g off vs)
  | [], _, _, _, h => h
  | v :: r, _, _, off, h => onlyq_putR h1 h2 r (off + 1) (h.trans (Only.set h1 h2 off v))
theorem SQ.put_avail (h : SQ lo hi gb w W s l m us) {k : Nat} (hk : k < m.avail.length) {g : Nat} (ha : s.a7 = some ⟨g, 0, none⟩) :
    SQ lo hi gb w (W.setCell ⟨g, k, none⟩ (.int .i64 (-9))) s l { m with avail := m.avail.set k (-9) } us := by
  have hr := h.own.avail
  have hg : lo ≤ g ∧ g < W.heap.size := hr.lt g (by rw [ha]; rfl)
  have hh : g < hi := h.top.t7 _ ha
  have ho : (Value.slice s.a7 m.avail.length s.c7).ownBlock = some g := by rw [ha]; rfl
  rw [ha] at hr
  refine ⟨h.own.put_avail (List.length_set ..) (by rw [ho]; exact (own_putR [.int .i64 (-9)] k hr).2) (by rw [ha, i64s_set]; have := (own_putR [.int .i64 (-9)] k hr).1; exact this), h.top, h.only.trans (Only.set hg.1 hh k _), h.box.far (p := ⟨g, k, none⟩) (by have := h.big; simp; omega) _, ⟨h.len.1, by rw [List.length_set]; exact h.len.2⟩, h.big⟩
theorem SQ.put_acct (h : SQ lo hi gb w W s l m us) {k : Nat} (hk : k < us.length) {g : Nat} (ha : s.a4 = some ⟨g, 0, none⟩) :
    SQ lo hi gb w (putR W g (k * 4) (accC (.slice none 0 0, ⟨0, [], false, 0⟩))) s l { m with accts := m.accts.set k ⟨0, [], false, 0⟩ } (us.set k (.slice none 0 0, ⟨0, [], false, 0⟩)) := by
  have hr := h.own.accts
  have hg : lo ≤ g ∧ g < W.heap.size := hr.lt g (by rw [ha]; rfl)
  have hh : g < hi := h.top.t4 _ ha
  have ho : (Value.slice s.a4 m.accts.length s.c4).ownBlock = some g := by rw [ha]; rfl
  rw [ha] at hr
  have hb : gb ≠ g := by have := h.big; omega
  refine ⟨h.own.put_acct rfl (by rw [ho]; exact (own_putR _ _ hr).2) (by rw [ha, flat_setR len_acc _ _ _ hk]; exact (own_putR _ _ hr).1), ⟨h.top.t1, h.top.t2, h.top.t3, h.top.t4, h.top.t5, h.top.t6, h.top.t7, h.top.t8, fun x hx g' hg' => ?_⟩, onlyq_putR hg.1 hh _ _ h.only, boxq_putR hb _ _ h.box, ⟨by rw [List.length_set]; exact h.len.1, h.len.2⟩, h.big⟩
  rcases List.mem_or_eq_of_mem_set hx with hx | rfl
  · exact h.top.cash x hx g' hg'
  · simp [Value.ownBlock] at hg'
theorem modq_fst {c : Nat} {x : Int} {us : List (Value × Acc)} {k : Nat} {y : Value × Acc} (h : y ∈ us.modify k (putV c x)) : ∃ z ∈ us, z.1 = y.1 := by
  rcases mem_modify h with h | ⟨z, h1, rfl⟩
  · exact ⟨y, h, rfl⟩
  · exact ⟨z, List.mem_of_getElem? h1, rfl⟩
theorem SQ.put_cash (h : SQ lo hi gb w W s l m us) {v c : Nat} (hv : v < us.length) (hvl : v < m.accts.length) (hc : c < (m.accts[v]).cash.length) :
    ∃ g cap, us[v].1 = .slice (some ⟨g, 0, none⟩) (m.accts[v]).cash.length cap ∧ (∃ u, W.cell? ⟨g, c, none⟩ = some u) ∧ W.frozen? ⟨g, c, none⟩ = false ∧ SQ lo hi gb w (W.setCell ⟨g, c, none⟩ (.int .i64 (-9))) s l (setCash m v c (-9)) (us.modify v (putV c (-9))) := by
  obtain ⟨g, cap, e1, h1, h2, h3, h4, h5⟩ := h.own.row hv hvl hc
  have hh : g < hi := h.top.cash _ (List.getElem_mem hv) g (by rw [e1]; rfl)
  refine ⟨g, cap, e1, ⟨_, h3⟩, h4, h5 (-9), ⟨h.top.t1, h.top.t2, h.top.t3, h.top.t4, h.top.t5, h.top.t6, h.top.t7, h.top.t8, fun x hx g' hg' => ?_⟩, h.only.trans (Only.set h1 hh c _), h.box.far (p := ⟨g, c, none⟩) (by have := h.big; simp; omega) _, ⟨by rw [setCash_len]; exact h.len.1, h.len.2⟩, h.big⟩
  obtain ⟨z, hz, e⟩ := modq_fst hx
  exact h.top.cash z hz g' (by rw [e]; exact hg')
theorem SQ.usLen (h : SQ lo hi gb w W s l m us) : us.length = l.accts.length := by rw [h.own.len]; exact h.len.1
end
/-- what lies outside of what changes -/
theorem Only_at {lo hi : Nat} {A B : World} (h : Only lo hi A B) {a : Option Addr} {cs : List Value} (hat : At A a cs) (hl : ∀ p, a = some p → cs ≠ [] → p.block < lo ∨ hi ≤ p.block) : At B a cs := fun j u hj => by
  obtain ⟨b', off', e, hc⟩ := hat j u hj
  have hlt : b' < A.heap.size := hat.lt b' off' none e (fun e0 => by rw [e0] at hj; simp at hj)
  exact ⟨b', off', e, (World.cell?_of_block (a := ⟨b', off' + j, none⟩) (h.block b' hlt (hl _ e (fun e0 => by rw [e0] at hj; simp at hj)))).trans hc⟩
theorem row_apart {lo hi : Nat} {A : World} {b M : Nat} {e : TypeId} {z n : Nat} {a : Option Addr} {c : Nat} {xs : List Value} (h : A.ownsRow b e z (.slice a n c) n xs) (hh : (∀ j, (Value.slice a n c).ownBlock = some j → j < M) ∧ M ≤ lo ∨ hi ≤ b) : ∀ p, a = some p → xs ≠ [] → p.block < lo ∨ hi ≤ p.block := fun p hp _ => by
  subst hp
  rcases hh with ⟨h1, h2⟩ | h1
  · have := h1 p.block rfl
    exact .inl (by omega)
  · have := (h.lt p.block rfl).1
    exact .inr (by omega)
end Go.Proofs.YtocjfjikkdpfdaaGreatDoor.ImgW
namespace Go.Proofs.YtocjfjikkdpfdaaGreatDoor.imageKeeps
open Go.ChangeShapes Go.WideShapes Go.ChangeAt Go.RowKit Go.Proofs.YtocjfjikkdpfdaaGreatDoor.Bas Go.Proofs.YtocjfjikkdpfdaaGreatDoor.LedM Go.Proofs.YtocjfjikkdpfdaaGreatDoor.LedW Go.Proofs.YtocjfjikkdpfdaaGreatDoor.ImgW

/-- the law's boxes -/
structure KB (w W : World) (s : Lists) (l : Led) (x : EvR) : Prop where
  led : Box W w.heap.size 31 #[.int .i64 l.day, .slice s.a1 l.curs.length s.c1, .slice s.a2 l.unders.length s.c2, .slice s.a3 l.instrs.length s.c3, .slice s.a4 l.accts.length s.c4, .slice s.a5 l.poss.length s.c5, .slice s.a6 l.orders.length s.c6, .slice s.a7 l.avail.length s.c7, .slice s.a8 l.locs.length s.c8]
  ev : Box W (w.heap.size + 1) 33 #[.int .i64 x.kind, .int .i64 x.acct, .int .i64 x.id, .int .i64 x.new, .int .i64 x.instr, .int .i64 x.under, .int .i64 x.cur, .int .i64 x.qty, .int .i64 x.price, .int .i64 x.amount, .bool x.call, .string ⟨x.name.toArray⟩]
  low : Below w.heap.size w W
theorem KB.keepB {w A B : World} {s : Lists} {l : Led} {x : EvR} {M : Nat} (h : KB w A s l x) (b : Below M A B) (hM : w.heap.size + 2 ≤ M) : KB w B s l x := ⟨h.led.below b (by omega), h.ev.below b (by omega), h.low.trans (b.mono (by omega))⟩
theorem KB.keep {w A B : World} {s : Lists} {l : Led} {x : EvR} (h : KB w A s l x) (b : Below A.heap.size A B) : KB w B s l x := h.keepB b h.ev.lt
set_option maxHeartbeats 64000000 in
set_option maxRecDepth 100000 in
theorem walk (s : Lists) (l : Led) (vs : List (Value × Acc)) (x : EvR) (w : World) (h1 : LedAt w s l vs) (o1 : LedOk w l vs s) (b1 : LedBig l) (hn : x.name.length ≤ 140737488351232) :
    Calls Tryz.prog 3 #[ledV s l, evV x] w fun e w' => e = .returned (.bool true) ∧ Below w.heap.size w w' := by
  have X : KB w ((w.alloc (.cells #[.int .i64 l.day, .slice s.a1 l.curs.length s.c1, .slice s.a2 l.unders.length s.c2, .slice s.a3 l.instrs.length s.c3, .slice s.a4 l.accts.length s.c4, .slice s.a5 l.poss.length s.c5, .slice s.a6 l.orders.length s.c6, .slice s.a7 l.avail.length s.c7, .slice s.a8 l.locs.length s.c8] 31)).alloc (.cells #[.int .i64 x.kind, .int .i64 x.acct, .int .i64 x.id, .int .i64 x.new, .int .i64 x.instr, .int .i64 x.under, .int .i64 x.cur, .int .i64 x.qty, .int .i64 x.price, .int .i64 x.amount, .bool x.call, .string ⟨x.name.toArray⟩] 33)) s l x := by
    have a2 := Box.new (w.alloc (.cells #[.int .i64 l.day, .slice s.a1 l.curs.length s.c1, .slice s.a2 l.unders.length s.c2, .slice s.a3 l.instrs.length s.c3, .slice s.a4 l.accts.length s.c4, .slice s.a5 l.poss.length s.c5, .slice s.a6 l.orders.length s.c6, .slice s.a7 l.avail.length s.c7, .slice s.a8 l.locs.length s.c8] 31)) 33 #[.int .i64 x.kind, .int .i64 x.acct, .int .i64 x.id, .int .i64 x.new, .int .i64 x.instr, .int .i64 x.under, .int .i64 x.cur, .int .i64 x.qty, .int .i64 x.price, .int .i64 x.amount, .bool x.call, .string ⟨x.name.toArray⟩]
    rw [World.size_alloc] at a2
    exact ⟨(Box.new w _ _).alloc _, a2, ((Below.refl _ _).alloc (Nat.le_refl _) _).alloc (by rw [World.size_alloc]; omega) _⟩
  have HLT := Lib.hid h1
  have D0 := Lib.hid (fun W => iwakes_calls W)
  have DW := Lib.hid (fun W h => iwide_calls s l vs W h b1)
  have HF := Lib.hid (fun h => ifit_of o1 h1 h)
  clear h1 o1 b1
  unfold ledV at DW ⊢
  unfold evV
  go_enter Tryz.func3, Tryz.ntmps3
  go_upto_region 1 with fail
  change Code.wp _ _ _ _ ((w.alloc (.cells #[.int .i64 l.day, .slice s.a1 l.curs.length s.c1, .slice s.a2 l.unders.length s.c2, .slice s.a3 l.instrs.length s.c3, .slice s.a4 l.accts.length s.c4, .slice s.a5 l.poss.length s.c5, .slice s.a6 l.orders.length s.c6, .slice s.a7 l.avail.length s.c7, .slice s.a8 l.locs.length s.c8] 31)).alloc (.cells #[.int .i64 x.kind, .int .i64 x.acct, .int .i64 x.id, .int .i64 x.new, .int .i64 x.instr, .int .i64 x.under, .int .i64 x.cur, .int .i64 x.qty, .int .i64 x.price, .int .i64 x.amount, .bool x.call, .string ⟨x.name.toArray⟩] 33))
  generalize (w.alloc (.cells #[.int .i64 l.day, .slice s.a1 l.curs.length s.c1, .slice s.a2 l.unders.length s.c2, .slice s.a3 l.instrs.length s.c3, .slice s.a4 l.accts.length s.c4, .slice s.a5 l.poss.length s.c5, .slice s.a6 l.orders.length s.c6, .slice s.a7 l.avail.length s.c7, .slice s.a8 l.locs.length s.c8] 31)).alloc (.cells #[.int .i64 x.kind, .int .i64 x.acct, .int .i64 x.id, .int .i64 x.new, .int .i64 x.instr, .int .i64 x.under, .int .i64 x.cur, .int .i64 x.qty, .int .i64 x.price, .int .i64 x.amount, .bool x.call, .string ⟨x.name.toArray⟩] 33) = w0 at *
  have XH := Lib.hid X
  clear X
  cases hw : iwideF l with
  | true =>
    rw [hw] at DW
    clear hw HF
    go_wp2_with (first | (go_at_call 5; refine (D0.out _).mono ?_; rintro e w1 ⟨rfl, b1⟩; have X1 := Lib.hid (XH.out.keep b1); have k0 : w1.cell? ⟨w.heap.size, 0, none⟩ = some (.int .i64 l.day) := X1.out.led.cell 0; have k1 : w1.cell? ⟨w.heap.size, 1, none⟩ = some (.slice s.a1 l.curs.length s.c1) := X1.out.led.cell 1; have k2 : w1.cell? ⟨w.heap.size, 2, none⟩ = some (.slice s.a2 l.unders.length s.c2) := X1.out.led.cell 2; have k3 : w1.cell? ⟨w.heap.size, 3, none⟩ = some (.slice s.a3 l.instrs.length s.c3) := X1.out.led.cell 3; have k4 : w1.cell? ⟨w.heap.size, 4, none⟩ = some (.slice s.a4 l.accts.length s.c4) := X1.out.led.cell 4; have k5 : w1.cell? ⟨w.heap.size, 5, none⟩ = some (.slice s.a5 l.poss.length s.c5) := X1.out.led.cell 5; have k6 : w1.cell? ⟨w.heap.size, 6, none⟩ = some (.slice s.a6 l.orders.length s.c6) := X1.out.led.cell 6; have k7 : w1.cell? ⟨w.heap.size, 7, none⟩ = some (.slice s.a7 l.avail.length s.c7) := X1.out.led.cell 7; have k8 : w1.cell? ⟨w.heap.size, 8, none⟩ = some (.slice s.a8 l.locs.length s.c8) := X1.out.led.cell 8) | (go_at_call 6; refine (DW.out _ (HLT.out.keep X1.out.low)).mono ?_; rintro e w2 ⟨rfl, b2⟩))
    go_ret
    exact ⟨rfl, X1.out.low.trans (b2.mono X1.out.low.size)⟩
  | false =>
  rw [hw] at DW
  have hf := HF.out hw
  clear hw HF
  have HCp := Lib.hid (fun W h => rcopy_calls s l vs W h hf)
  have HI := Lib.hid (fun W r us h => image_calls r l us W h hf)
  have HRI := Lib.hid (fun W h => rimage_calls s l vs W h hf)
  have HE := Lib.hid (fun W => event_calls x W hn)
  have HRE := Lib.hid (fun W => revent_calls x W hn)
  have HSm := Lib.hid (fun W r us h h' => rsame_calls r l us s l vs W h h' hf hf)
  simp only [decide_true] at HSm
  have z1 := Lib.hid (image_size l hf)
  have z2 := Lib.hid (event_size x)
  have HRD := Lib.hid (fun W a c h h1 h2 => readl_calls (imageF l).1 a c W h h1 h2)
  have HFy := Lib.hid (readL_fit (imageF l).1)
  have HY : Hid ((imageF l).2 = 0 → (readL (imageF l).1).1 = l) := fun h => by
    rcases image_two l with ⟨hg, el⟩ | ⟨hg, el⟩
    · rw [el, (readL_enc hf hg).1]
    · rw [el] at h
      exact absurd h (by decide)
  have HSy := Lib.hid (fun W r us h h' => rsame_calls r (readL (imageF l).1).1 us s l vs W h h' HFy.out hf)
  unfold ledV at HCp HI HRI HSm HRD HSy
  unfold evV at HE HRE
  clear hf hn
  generalize readL (imageF l).1 = rl at *
  generalize imageF l = q at *
  generalize eventF x = f at *
  obtain ⟨en, ke⟩ := q
  obtain ⟨ec, kf⟩ := f
  obtain ⟨yl, ky⟩ := rl
  simp only at HI HRI HE HRE z1 z2 HRD HFy HY HSy
  go_upto_region 5 with (first | (go_at_call 5; refine (D0.out _).mono ?_; rintro e w1 ⟨rfl, b1⟩; have X1 := Lib.hid (XH.out.keep b1); have k0 : w1.cell? ⟨w.heap.size, 0, none⟩ = some (.int .i64 l.day) := X1.out.led.cell 0; have k1 : w1.cell? ⟨w.heap.size, 1, none⟩ = some (.slice s.a1 l.curs.length s.c1) := X1.out.led.cell 1; have k2 : w1.cell? ⟨w.heap.size, 2, none⟩ = some (.slice s.a2 l.unders.length s.c2) := X1.out.led.cell 2; have k3 : w1.cell? ⟨w.heap.size, 3, none⟩ = some (.slice s.a3 l.instrs.length s.c3) := X1.out.led.cell 3; have k4 : w1.cell? ⟨w.heap.size, 4, none⟩ = some (.slice s.a4 l.accts.length s.c4) := X1.out.led.cell 4; have k5 : w1.cell? ⟨w.heap.size, 5, none⟩ = some (.slice s.a5 l.poss.length s.c5) := X1.out.led.cell 5; have k6 : w1.cell? ⟨w.heap.size, 6, none⟩ = some (.slice s.a6 l.orders.length s.c6) := X1.out.led.cell 6; have k7 : w1.cell? ⟨w.heap.size, 7, none⟩ = some (.slice s.a7 l.avail.length s.c7) := X1.out.led.cell 7; have k8 : w1.cell? ⟨w.heap.size, 8, none⟩ = some (.slice s.a8 l.locs.length s.c8) := X1.out.led.cell 8) | (go_at_call 6; refine (DW.out _ (HLT.out.keep X1.out.low)).mono ?_; rintro e w2 ⟨rfl, b2⟩; have X2 := Lib.hid (X1.out.keep b2)))
  clear k0 k1 k2 k3 k4 k5 k6 k7 k8 X1 XH D0 DW b2
  have k0 : w2.cell? ⟨w.heap.size, 0, none⟩ = some (.int .i64 l.day) := X2.out.led.cell 0
  have k1 : w2.cell? ⟨w.heap.size, 1, none⟩ = some (.slice s.a1 l.curs.length s.c1) := X2.out.led.cell 1
  have k2 : w2.cell? ⟨w.heap.size, 2, none⟩ = some (.slice s.a2 l.unders.length s.c2) := X2.out.led.cell 2
  have k3 : w2.cell? ⟨w.heap.size, 3, none⟩ = some (.slice s.a3 l.instrs.length s.c3) := X2.out.led.cell 3
  have k4 : w2.cell? ⟨w.heap.size, 4, none⟩ = some (.slice s.a4 l.accts.length s.c4) := X2.out.led.cell 4
  have k5 : w2.cell? ⟨w.heap.size, 5, none⟩ = some (.slice s.a5 l.poss.length s.c5) := X2.out.led.cell 5
  have k6 : w2.cell? ⟨w.heap.size, 6, none⟩ = some (.slice s.a6 l.orders.length s.c6) := X2.out.led.cell 6
  have k7 : w2.cell? ⟨w.heap.size, 7, none⟩ = some (.slice s.a7 l.avail.length s.c7) := X2.out.led.cell 7
  have k8 : w2.cell? ⟨w.heap.size, 8, none⟩ = some (.slice s.a8 l.locs.length s.c8) := X2.out.led.cell 8
  go_upto_region 6 with (first | (go_at_call 7; refine (HCp.out _ (HLT.out.keep X2.out.low)).mono ?_; rintro e w3 ⟨r, us, rfl, own3, b3⟩; have HB := Box.new w3 31 #[.int .i64 0, .slice none 0 0, .slice none 0 0, .slice none 0 0, .slice none 0 0, .slice none 0 0, .slice none 0 0, .slice none 0 0, .slice none 0 0]) | ((with_reducible refine wpList_store_box rfl 31 (.tmp 5) (.tmp 32) rfl #[.int .i64 l.day, .slice r.a1 l.curs.length r.c1, .slice r.a2 l.unders.length r.c2, .slice r.a3 l.instrs.length r.c3, .slice r.a4 l.accts.length r.c4, .slice r.a5 l.poss.length r.c5, .slice r.a6 l.orders.length r.c6, .slice r.a7 l.avail.length r.c7, .slice r.a8 l.locs.length r.c8] HB ?_ ?_ ?_ ?_ ?_ ?_); (· kernel_rfl); (· rfl); (· simp [Value.oneCell']); (· rfl); (· rfl)))
  have b5 : Below w3.heap.size w3 ((w3.alloc (.cells #[.int .i64 0, .slice none 0 0, .slice none 0 0, .slice none 0 0, .slice none 0 0, .slice none 0 0, .slice none 0 0, .slice none 0 0, .slice none 0 0] 31)).setRow w3.heap.size #[.int .i64 l.day, .slice r.a1 l.curs.length r.c1, .slice r.a2 l.unders.length r.c2, .slice r.a3 l.instrs.length r.c3, .slice r.a4 l.accts.length r.c4, .slice r.a5 l.poss.length r.c5, .slice r.a6 l.orders.length r.c6, .slice r.a7 l.avail.length r.c7, .slice r.a8 l.locs.length r.c8]) := below_setRow ((Below.refl _ _).alloc (Nat.le_refl _) _) (Nat.le_refl _) _
  have bb := b3.trans (b5.mono b3.size)
  have M5 := Lib.hid (own3.below b5)
  have hbx := HB.row #[.int .i64 l.day, .slice r.a1 l.curs.length r.c1, .slice r.a2 l.unders.length r.c2, .slice r.a3 l.instrs.length r.c3, .slice r.a4 l.accts.length r.c4, .slice r.a5 l.poss.length r.c5, .slice r.a6 l.orders.length r.c6, .slice r.a7 l.avail.length r.c7, .slice r.a8 l.locs.length r.c8]
  have P5 := Lib.hid hbx
  have X5 := Lib.hid (X2.out.keep bb)
  clear X2 k0 k1 k2 k3 k4 k5 k6 k7 k8 b3 b5 bb HB own3 hbx HCp
  generalize (w3.alloc (.cells #[.int .i64 0, .slice none 0 0, .slice none 0 0, .slice none 0 0, .slice none 0 0, .slice none 0 0, .slice none 0 0, .slice none 0 0, .slice none 0 0] 31)).setRow w3.heap.size #[.int .i64 l.day, .slice r.a1 l.curs.length r.c1, .slice r.a2 l.unders.length r.c2, .slice r.a3 l.instrs.length r.c3, .slice r.a4 l.accts.length r.c4, .slice r.a5 l.poss.length r.c5, .slice r.a6 l.orders.length r.c6, .slice r.a7 l.avail.length r.c7, .slice r.a8 l.locs.length r.c8] = w5 at *
  generalize w3.heap.size = g5 at *
  have hz5 : w.heap.size + 2 ≤ w5.heap.size := X5.out.ev.lt
  have k0 : w5.cell? ⟨g5, 0, none⟩ = some (.int .i64 l.day) := P5.out.cell 0
  have k1 : w5.cell? ⟨g5, 1, none⟩ = some (.slice r.a1 l.curs.length r.c1) := P5.out.cell 1
  have k2 : w5.cell? ⟨g5, 2, none⟩ = some (.slice r.a2 l.unders.length r.c2) := P5.out.cell 2
  have k3 : w5.cell? ⟨g5, 3, none⟩ = some (.slice r.a3 l.instrs.length r.c3) := P5.out.cell 3
  have k4 : w5.cell? ⟨g5, 4, none⟩ = some (.slice r.a4 l.accts.length r.c4) := P5.out.cell 4
  have k5 : w5.cell? ⟨g5, 5, none⟩ = some (.slice r.a5 l.poss.length r.c5) := P5.out.cell 5
  have k6 : w5.cell? ⟨g5, 6, none⟩ = some (.slice r.a6 l.orders.length r.c6) := P5.out.cell 6
  have k7 : w5.cell? ⟨g5, 7, none⟩ = some (.slice r.a7 l.avail.length r.c7) := P5.out.cell 7
  have k8 : w5.cell? ⟨g5, 8, none⟩ = some (.slice r.a8 l.locs.length r.c8) := P5.out.cell 8
  go_upto_region 7 with (go_at_call 8; refine (HI.out _ _ _ M5.out.at_).mono ?_; rintro e w6 ⟨o6, rfl, own6, b6⟩)
  have hz6 := b6.size
  have X6 := Lib.hid (X5.out.keep b6)
  have M6 := Lib.hid (M5.out.below b6)
  have P6 := Lib.hid (P5.out.keep b6)
  clear X5 M5 P5 k0 k1 k2 k3 k4 k5 k6 k7 k8
  obtain ⟨a6, c6, rfl, hm6, hl6, _, _, _⟩ := at_of_owns own6
  have lt6 := Lib.hid own6.lt
  have A6 := Lib.hid own6
  clear own6 b6
  have k0 : w6.cell? ⟨g5, 0, none⟩ = some (.int .i64 l.day) := P6.out.cell 0
  have k1 : w6.cell? ⟨g5, 1, none⟩ = some (.slice r.a1 l.curs.length r.c1) := P6.out.cell 1
  have k2 : w6.cell? ⟨g5, 2, none⟩ = some (.slice r.a2 l.unders.length r.c2) := P6.out.cell 2
  have k3 : w6.cell? ⟨g5, 3, none⟩ = some (.slice r.a3 l.instrs.length r.c3) := P6.out.cell 3
  have k4 : w6.cell? ⟨g5, 4, none⟩ = some (.slice r.a4 l.accts.length r.c4) := P6.out.cell 4
  have k5 : w6.cell? ⟨g5, 5, none⟩ = some (.slice r.a5 l.poss.length r.c5) := P6.out.cell 5
  have k6 : w6.cell? ⟨g5, 6, none⟩ = some (.slice r.a6 l.orders.length r.c6) := P6.out.cell 6
  have k7 : w6.cell? ⟨g5, 7, none⟩ = some (.slice r.a7 l.avail.length r.c7) := P6.out.cell 7
  have k8 : w6.cell? ⟨g5, 8, none⟩ = some (.slice r.a8 l.locs.length r.c8) := P6.out.cell 8
  go_upto_region 8 with (go_at_call 8; refine (HI.out _ _ _ M6.out.at_).mono ?_; rintro e w7 ⟨o7, rfl, own7, b7⟩)
  have hz7 := b7.size
  have X7 := Lib.hid (X6.out.keep b7)
  have M7 := Lib.hid (M6.out.below b7)
  have P7 := Lib.hid (P6.out.keep b7)
  have A7 := Lib.hid (owns_below A6.out b7)
  clear X6 M6 P6 A6 k0 k1 k2 k3 k4 k5 k6 k7 k8 HI
  obtain ⟨a7, c7, rfl, hm7, hl7, _, _, _⟩ := at_of_owns own7
  have lt7 := Lib.hid own7.lt
  have B7 := Lib.hid own7
  clear own7 b7
  have e0 : w7.cell? ⟨w.heap.size + 1, 0, none⟩ = some (.int .i64 x.kind) := X7.out.ev.cell 0
  have e1 : w7.cell? ⟨w.heap.size + 1, 1, none⟩ = some (.int .i64 x.acct) := X7.out.ev.cell 1
  have e2 : w7.cell? ⟨w.heap.size + 1, 2, none⟩ = some (.int .i64 x.id) := X7.out.ev.cell 2
  have e3 : w7.cell? ⟨w.heap.size + 1, 3, none⟩ = some (.int .i64 x.new) := X7.out.ev.cell 3
  have e4 : w7.cell? ⟨w.heap.size + 1, 4, none⟩ = some (.int .i64 x.instr) := X7.out.ev.cell 4
  have e5 : w7.cell? ⟨w.heap.size + 1, 5, none⟩ = some (.int .i64 x.under) := X7.out.ev.cell 5
  have e6 : w7.cell? ⟨w.heap.size + 1, 6, none⟩ = some (.int .i64 x.cur) := X7.out.ev.cell 6
  have e7 : w7.cell? ⟨w.heap.size + 1, 7, none⟩ = some (.int .i64 x.qty) := X7.out.ev.cell 7
  have e8 : w7.cell? ⟨w.heap.size + 1, 8, none⟩ = some (.int .i64 x.price) := X7.out.ev.cell 8
  have e9 : w7.cell? ⟨w.heap.size + 1, 9, none⟩ = some (.int .i64 x.amount) := X7.out.ev.cell 9
  have e10 : w7.cell? ⟨w.heap.size + 1, 10, none⟩ = some (.bool x.call) := X7.out.ev.cell 10
  have e11 : w7.cell? ⟨w.heap.size + 1, 11, none⟩ = some (.string ⟨x.name.toArray⟩) := X7.out.ev.cell 11
  go_upto_region 9 with (go_at_call 9; refine (HE.out _).mono ?_; rintro e w8 ⟨o8, rfl, own8, b8⟩)
  have hz8 := b8.size
  have X8 := Lib.hid (X7.out.keep b8)
  have M8 := Lib.hid (M7.out.below b8)
  have P8 := Lib.hid (P7.out.keep b8)
  have A8 := Lib.hid (owns_below A7.out b8)
  have B8 := Lib.hid (owns_below B7.out b8)
  clear X7 M7 P7 A7 B7 e0 e1 e2 e3 e4 e5 e6 e7 e8 e9 e10 e11
  obtain ⟨a8, c8, rfl, hm8, hl8, _, _, _⟩ := at_of_owns own8
  have lt8 := Lib.hid own8.lt
  have C8 := Lib.hid own8
  clear own8 b8
  have e0 : w8.cell? ⟨w.heap.size + 1, 0, none⟩ = some (.int .i64 x.kind) := X8.out.ev.cell 0
  have e1 : w8.cell? ⟨w.heap.size + 1, 1, none⟩ = some (.int .i64 x.acct) := X8.out.ev.cell 1
  have e2 : w8.cell? ⟨w.heap.size + 1, 2, none⟩ = some (.int .i64 x.id) := X8.out.ev.cell 2
  have e3 : w8.cell? ⟨w.heap.size + 1, 3, none⟩ = some (.int .i64 x.new) := X8.out.ev.cell 3
  have e4 : w8.cell? ⟨w.heap.size + 1, 4, none⟩ = some (.int .i64 x.instr) := X8.out.ev.cell 4
  have e5 : w8.cell? ⟨w.heap.size + 1, 5, none⟩ = some (.int .i64 x.under) := X8.out.ev.cell 5
  have e6 : w8.cell? ⟨w.heap.size + 1, 6, none⟩ = some (.int .i64 x.cur) := X8.out.ev.cell 6
  have e7 : w8.cell? ⟨w.heap.size + 1, 7, none⟩ = some (.int .i64 x.qty) := X8.out.ev.cell 7
  have e8 : w8.cell? ⟨w.heap.size + 1, 8, none⟩ = some (.int .i64 x.price) := X8.out.ev.cell 8
  have e9 : w8.cell? ⟨w.heap.size + 1, 9, none⟩ = some (.int .i64 x.amount) := X8.out.ev.cell 9
  have e10 : w8.cell? ⟨w.heap.size + 1, 10, none⟩ = some (.bool x.call) := X8.out.ev.cell 10
  have e11 : w8.cell? ⟨w.heap.size + 1, 11, none⟩ = some (.string ⟨x.name.toArray⟩) := X8.out.ev.cell 11
  go_upto_region 10 with (go_at_call 9; refine (HE.out _).mono ?_; rintro e w9 ⟨o9, rfl, own9, b9⟩)
  have hz9 := b9.size
  have X9 := Lib.hid (X8.out.keep b9)
  have M9 := Lib.hid (M8.out.below b9)
  have P9 := Lib.hid (P8.out.keep b9)
  have A9 := Lib.hid (owns_below A8.out b9)
  have B9 := Lib.hid (owns_below B8.out b9)
  have C9 := Lib.hid (owns_below C8.out b9)
  clear X8 M8 P8 A8 B8 C8 e0 e1 e2 e3 e4 e5 e6 e7 e8 e9 e10 e11 HE
  obtain ⟨a9, c9, rfl, hm9, hl9, _, _, _⟩ := at_of_owns own9
  have lt9 := Lib.hid own9.lt
  have D9 := Lib.hid own9
  clear own9 b9
  have k0 : w9.cell? ⟨g5, 0, none⟩ = some (.int .i64 l.day) := P9.out.cell 0
  have k1 : w9.cell? ⟨g5, 1, none⟩ = some (.slice r.a1 l.curs.length r.c1) := P9.out.cell 1
  have k2 : w9.cell? ⟨g5, 2, none⟩ = some (.slice r.a2 l.unders.length r.c2) := P9.out.cell 2
  have k3 : w9.cell? ⟨g5, 3, none⟩ = some (.slice r.a3 l.instrs.length r.c3) := P9.out.cell 3
  have k4 : w9.cell? ⟨g5, 4, none⟩ = some (.slice r.a4 l.accts.length r.c4) := P9.out.cell 4
  have k5 : w9.cell? ⟨g5, 5, none⟩ = some (.slice r.a5 l.poss.length r.c5) := P9.out.cell 5
  have k6 : w9.cell? ⟨g5, 6, none⟩ = some (.slice r.a6 l.orders.length r.c6) := P9.out.cell 6
  have k7 : w9.cell? ⟨g5, 7, none⟩ = some (.slice r.a7 l.avail.length r.c7) := P9.out.cell 7
  have k8 : w9.cell? ⟨g5, 8, none⟩ = some (.slice r.a8 l.locs.length r.c8) := P9.out.cell 8
  have m0 : w9.cell? ⟨w.heap.size, 0, none⟩ = some (.int .i64 l.day) := X9.out.led.cell 0
  have m1 : w9.cell? ⟨w.heap.size, 1, none⟩ = some (.slice s.a1 l.curs.length s.c1) := X9.out.led.cell 1
  have m2 : w9.cell? ⟨w.heap.size, 2, none⟩ = some (.slice s.a2 l.unders.length s.c2) := X9.out.led.cell 2
  have m3 : w9.cell? ⟨w.heap.size, 3, none⟩ = some (.slice s.a3 l.instrs.length s.c3) := X9.out.led.cell 3
  have m4 : w9.cell? ⟨w.heap.size, 4, none⟩ = some (.slice s.a4 l.accts.length s.c4) := X9.out.led.cell 4
  have m5 : w9.cell? ⟨w.heap.size, 5, none⟩ = some (.slice s.a5 l.poss.length s.c5) := X9.out.led.cell 5
  have m6 : w9.cell? ⟨w.heap.size, 6, none⟩ = some (.slice s.a6 l.orders.length s.c6) := X9.out.led.cell 6
  have m7 : w9.cell? ⟨w.heap.size, 7, none⟩ = some (.slice s.a7 l.avail.length s.c7) := X9.out.led.cell 7
  have m8 : w9.cell? ⟨w.heap.size, 8, none⟩ = some (.slice s.a8 l.locs.length s.c8) := X9.out.led.cell 8
  go_upto_region 12 with (go_at_call 10; refine (HSm.out _ _ _ M9.out.at_ (HLT.out.keep X9.out.low)).mono ?_; rintro e w10 ⟨rfl, b10⟩)
  have hz10 := b10.size
  have X10 := Lib.hid (X9.out.keep b10)
  have M10 := Lib.hid (M9.out.below b10)
  have P10 := Lib.hid (P9.out.keep b10)
  have A10 := Lib.hid (owns_below A9.out b10)
  have B10 := Lib.hid (owns_below B9.out b10)
  have C10 := Lib.hid (owns_below C9.out b10)
  have D10 := Lib.hid (owns_below D9.out b10)
  clear X9 M9 P9 A9 B9 C9 D9 k0 k1 k2 k3 k4 k5 k6 k7 k8 m0 m1 m2 m3 m4 m5 m6 m7 m8 HSm
  clear b10
  clear M10 P10
  go_upto_region 13 with (first | (go_at_call 11; refine (HRD.out _ _ _ (owns_at A10.out).1 hl6 hm6).mono ?_; rintro e w11 ⟨r1, us1, rfl, ownr, br⟩; have HB := Box.new w11 31 #[.int .i64 0, .slice none 0 0, .slice none 0 0, .slice none 0 0, .slice none 0 0, .slice none 0 0, .slice none 0 0, .slice none 0 0, .slice none 0 0]) | ((with_reducible refine wpList_store_box rfl 31 (.tmp 14) (.tmp 60) rfl #[.int .i64 yl.day, .slice r1.a1 yl.curs.length r1.c1, .slice r1.a2 yl.unders.length r1.c2, .slice r1.a3 yl.instrs.length r1.c3, .slice r1.a4 yl.accts.length r1.c4, .slice r1.a5 yl.poss.length r1.c5, .slice r1.a6 yl.orders.length r1.c6, .slice r1.a7 yl.avail.length r1.c7, .slice r1.a8 yl.locs.length r1.c8] HB ?_ ?_ ?_ ?_ ?_ ?_); (· kernel_rfl); (· rfl); (· simp [Value.oneCell']); (· rfl); (· rfl)))
  have bs : Below w11.heap.size w11 ((w11.alloc (.cells #[.int .i64 0, .slice none 0 0, .slice none 0 0, .slice none 0 0, .slice none 0 0, .slice none 0 0, .slice none 0 0, .slice none 0 0, .slice none 0 0] 31)).setRow w11.heap.size #[.int .i64 yl.day, .slice r1.a1 yl.curs.length r1.c1, .slice r1.a2 yl.unders.length r1.c2, .slice r1.a3 yl.instrs.length r1.c3, .slice r1.a4 yl.accts.length r1.c4, .slice r1.a5 yl.poss.length r1.c5, .slice r1.a6 yl.orders.length r1.c6, .slice r1.a7 yl.avail.length r1.c7, .slice r1.a8 yl.locs.length r1.c8]) := below_setRow ((Below.refl _ _).alloc (Nat.le_refl _) _) (Nat.le_refl _) _
  have bb := br.trans (bs.mono br.size)
  have hz11 := br.size
  have U12 := Lib.hid (ownr.below bs)
  have top11 := Lib.hid ownr.top
  have hbx := HB.row #[.int .i64 yl.day, .slice r1.a1 yl.curs.length r1.c1, .slice r1.a2 yl.unders.length r1.c2, .slice r1.a3 yl.instrs.length r1.c3, .slice r1.a4 yl.accts.length r1.c4, .slice r1.a5 yl.poss.length r1.c5, .slice r1.a6 yl.orders.length r1.c6, .slice r1.a7 yl.avail.length r1.c7, .slice r1.a8 yl.locs.length r1.c8]
  have hz12 : w11.heap.size < ((w11.alloc (.cells #[.int .i64 0, .slice none 0 0, .slice none 0 0, .slice none 0 0, .slice none 0 0, .slice none 0 0, .slice none 0 0, .slice none 0 0, .slice none 0 0] 31)).setRow w11.heap.size #[.int .i64 yl.day, .slice r1.a1 yl.curs.length r1.c1, .slice r1.a2 yl.unders.length r1.c2, .slice r1.a3 yl.instrs.length r1.c3, .slice r1.a4 yl.accts.length r1.c4, .slice r1.a5 yl.poss.length r1.c5, .slice r1.a6 yl.orders.length r1.c6, .slice r1.a7 yl.avail.length r1.c7, .slice r1.a8 yl.locs.length r1.c8]).heap.size := hbx.lt
  have P12 := Lib.hid hbx
  have X12 := Lib.hid (X10.out.keep bb)
  have A12 := Lib.hid (owns_below A10.out bb)
  have B12 := Lib.hid (owns_below B10.out bb)
  have C12 := Lib.hid (owns_below C10.out bb)
  have D12 := Lib.hid (owns_below D10.out bb)
  clear X10 A10 B10 C10 D10 br bs bb HB ownr hbx
  generalize (w11.alloc (.cells #[.int .i64 0, .slice none 0 0, .slice none 0 0, .slice none 0 0, .slice none 0 0, .slice none 0 0, .slice none 0 0, .slice none 0 0, .slice none 0 0] 31)).setRow w11.heap.size #[.int .i64 yl.day, .slice r1.a1 yl.curs.length r1.c1, .slice r1.a2 yl.unders.length r1.c2, .slice r1.a3 yl.instrs.length r1.c3, .slice r1.a4 yl.accts.length r1.c4, .slice r1.a5 yl.poss.length r1.c5, .slice r1.a6 yl.orders.length r1.c6, .slice r1.a7 yl.avail.length r1.c7, .slice r1.a8 yl.locs.length r1.c8] = w12 at *
  go_upto_region 14 with (first | (go_at_call 11; refine (HRD.out _ _ _ (owns_at A12.out).1 hl6 hm6).mono ?_; rintro e w13 ⟨r2, us2, rfl, ownr, br⟩; have HB := Box.new w13 31 #[.int .i64 0, .slice none 0 0, .slice none 0 0, .slice none 0 0, .slice none 0 0, .slice none 0 0, .slice none 0 0, .slice none 0 0, .slice none 0 0]) | ((with_reducible refine wpList_store_box rfl 31 (.tmp 16) (.tmp 65) rfl #[.int .i64 yl.day, .slice r2.a1 yl.curs.length r2.c1, .slice r2.a2 yl.unders.length r2.c2, .slice r2.a3 yl.instrs.length r2.c3, .slice r2.a4 yl.accts.length r2.c4, .slice r2.a5 yl.poss.length r2.c5, .slice r2.a6 yl.orders.length r2.c6, .slice r2.a7 yl.avail.length r2.c7, .slice r2.a8 yl.locs.length r2.c8] HB ?_ ?_ ?_ ?_ ?_ ?_); (· kernel_rfl); (· rfl); (· simp [Value.oneCell']); (· rfl); (· rfl)))
  have bs : Below w13.heap.size w13 ((w13.alloc (.cells #[.int .i64 0, .slice none 0 0, .slice none 0 0, .slice none 0 0, .slice none 0 0, .slice none 0 0, .slice none 0 0, .slice none 0 0, .slice none 0 0] 31)).setRow w13.heap.size #[.int .i64 yl.day, .slice r2.a1 yl.curs.length r2.c1, .slice r2.a2 yl.unders.length r2.c2, .slice r2.a3 yl.instrs.length r2.c3, .slice r2.a4 yl.accts.length r2.c4, .slice r2.a5 yl.poss.length r2.c5, .slice r2.a6 yl.orders.length r2.c6, .slice r2.a7 yl.avail.length r2.c7, .slice r2.a8 yl.locs.length r2.c8]) := below_setRow ((Below.refl _ _).alloc (Nat.le_refl _) _) (Nat.le_refl _) _
  have bb := br.trans (bs.mono br.size)
  have hz13 := br.size
  have V14 := Lib.hid (ownr.below bs)
  have top13 := Lib.hid ownr.top
  have hbx := HB.row #[.int .i64 yl.day, .slice r2.a1 yl.curs.length r2.c1, .slice r2.a2 yl.unders.length r2.c2, .slice r2.a3 yl.instrs.length r2.c3, .slice r2.a4 yl.accts.length r2.c4, .slice r2.a5 yl.poss.length r2.c5, .slice r2.a6 yl.orders.length r2.c6, .slice r2.a7 yl.avail.length r2.c7, .slice r2.a8 yl.locs.length r2.c8]
  have hz14 : w13.heap.size < ((w13.alloc (.cells #[.int .i64 0, .slice none 0 0, .slice none 0 0, .slice none 0 0, .slice none 0 0, .slice none 0 0, .slice none 0 0, .slice none 0 0, .slice none 0 0] 31)).setRow w13.heap.size #[.int .i64 yl.day, .slice r2.a1 yl.curs.length r2.c1, .slice r2.a2 yl.unders.length r2.c2, .slice r2.a3 yl.instrs.length r2.c3, .slice r2.a4 yl.accts.length r2.c4, .slice r2.a5 yl.poss.length r2.c5, .slice r2.a6 yl.orders.length r2.c6, .slice r2.a7 yl.avail.length r2.c7, .slice r2.a8 yl.locs.length r2.c8]).heap.size := hbx.lt
  have Q14 := Lib.hid hbx
  have X14 := Lib.hid (X12.out.keep bb)
  have A14 := Lib.hid (owns_below A12.out bb)
  have B14 := Lib.hid (owns_below B12.out bb)
  have C14 := Lib.hid (owns_below C12.out bb)
  have D14 := Lib.hid (owns_below D12.out bb)
  have U14 := Lib.hid (U12.out.below bb)
  have P14 := Lib.hid (P12.out.keep bb)
  clear X12 A12 B12 C12 D12 U12 P12 br bs bb HB ownr hbx
  generalize (w13.alloc (.cells #[.int .i64 0, .slice none 0 0, .slice none 0 0, .slice none 0 0, .slice none 0 0, .slice none 0 0, .slice none 0 0, .slice none 0 0, .slice none 0 0] 31)).setRow w13.heap.size #[.int .i64 yl.day, .slice r2.a1 yl.curs.length r2.c1, .slice r2.a2 yl.unders.length r2.c2, .slice r2.a3 yl.instrs.length r2.c3, .slice r2.a4 yl.accts.length r2.c4, .slice r2.a5 yl.poss.length r2.c5, .slice r2.a6 yl.orders.length r2.c6, .slice r2.a7 yl.avail.length r2.c7, .slice r2.a8 yl.locs.length r2.c8] = w14 at *
  go_wp2_with fail
  go_loopw [69] (fun i wr => ∃ (k : Nat) (L : List Value), k ≤ en.length ∧ i = .int .i64 (k : Int) ∧ wr.ownsRow (w5.heap.size + 1) 5 1 (.slice a6 en.length c6) en.length L ∧ Only w5.heap.size w6.heap.size w14 wr) (fun i _ => en.length - (intOf i).toNat)
  case atStart => exact ⟨0, _, by omega, rfl, A14.out, Only.refl _ _ _⟩
  case round =>
    obtain ⟨k, L, hk, rfl, OR, OO⟩ := hrel
    by_cases hlt : k < en.length
    · obtain ⟨ga, rfl, hb, _⟩ := own_block OR (by omega)
      have hga := lt6.out ga rfl
      obtain ⟨u0, d0⟩ : ∃ u, wr.cell? ⟨ga, k, none⟩ = some u := own_cell OR k (by omega)
      have t0 : wr.frozen? ⟨ga, k, none⟩ = false := OR.frozenAt k
      have ON := Lib.hid (own_putR [.int .u8 255] k OR).1
      have OM := Lib.hid (OO.trans (Only.set (by omega) hga.2 k (.int .u8 255)))
      have hzl := z1.out
      clear OR OO hga
      go_wp2_with fail
      go_roundw
      case rel => exact ⟨k + 1, _, by omega, by go_num, ON.out, OM.out⟩
      case measure => simp [intOf]; omega
    · obtain rfl : k = en.length := by omega
      have OO9 := Lib.hid OO
      clear OO OR hlt hk
      have hw : w5.heap.size ≤ w14.heap.size := by omega
      have X15 := Lib.hid (X14.out.keepB (OO9.out.below hw) hz5)
      have B15 := Lib.hid (OO9.out.own B14.out (by omega))
      have C15 := Lib.hid (OO9.out.own C14.out (by omega))
      have D15 := Lib.hid (OO9.out.own D14.out (by omega))
      have U15 := Lib.hid (OO9.out.led U14.out (by omega))
      have V15 := Lib.hid (OO9.out.led V14.out (by omega))
      have P15 := Lib.hid (OO9.out.box P14.out (.inr (by omega)))
      have Q15 := Lib.hid (OO9.out.box Q14.out (.inr (by omega)))
      have hw15 := OO9.out.size
      clear X14 A14 B14 C14 D14 U14 V14 P14 Q14 OO9 hw
      generalize hwr : wr = w15 at *
      clear hwr
      go_wp2_with fail
      go_loopw [78] (fun i wr => ∃ (k : Nat) (L : List Value), k ≤ ec.length ∧ i = .int .i64 (k : Int) ∧ wr.ownsRow (w7.heap.size + 1) 5 1 (.slice a8 ec.length c8) ec.length L ∧ Only w7.heap.size w8.heap.size w15 wr) (fun i _ => ec.length - (intOf i).toNat)
      case atStart => exact ⟨0, _, by omega, rfl, C15.out, Only.refl _ _ _⟩
      case round =>
        obtain ⟨k, L, hk, rfl, OR, OO⟩ := hrel
        by_cases hlt : k < ec.length
        · obtain ⟨ga, rfl, hb, _⟩ := own_block OR (by omega)
          have hga := lt8.out ga rfl
          obtain ⟨u0, d0⟩ : ∃ u, wr.cell? ⟨ga, k, none⟩ = some u := own_cell OR k (by omega)
          have t0 : wr.frozen? ⟨ga, k, none⟩ = false := OR.frozenAt k
          have ON := Lib.hid (own_putR [.int .u8 255] k OR).1
          have OM := Lib.hid (OO.trans (Only.set (by omega) hga.2 k (.int .u8 255)))
          have hzl := z2.out
          clear OR OO hga
          go_wp2_with fail
          go_roundw
          case rel => exact ⟨k + 1, _, by omega, by go_num, ON.out, OM.out⟩
          case measure => simp [intOf]; omega
        · obtain rfl : k = ec.length := by omega
          have OO9 := Lib.hid OO
          clear OO OR hlt hk
          have hw : w7.heap.size ≤ w15.heap.size := by omega
          have X16 := Lib.hid (X15.out.keepB (OO9.out.below hw) (by omega))
          have B16 := Lib.hid (owns_under B15.out (fun j hj => (lt7.out j hj).2) (OO9.out.below hw))
          have D16 := Lib.hid (OO9.out.own D15.out (by omega))
          have U16 := Lib.hid (OO9.out.led U15.out (by omega))
          have V16 := Lib.hid (OO9.out.led V15.out (by omega))
          have P16 := Lib.hid (OO9.out.box P15.out (.inr (by omega)))
          have Q16 := Lib.hid (OO9.out.box Q15.out (.inr (by omega)))
          have hw16 := OO9.out.size
          clear X15 B15 C15 D15 U15 V15 P15 Q15 OO9 hw
          generalize hwr : wr = w16 at *
          clear hwr
          have XH : Hid (∃ m us, SQ w10.heap.size w11.heap.size w11.heap.size w16 w16 r1 yl m us) := ⟨yl, us1, ⟨U16.out, top11.out, Only.refl _ _ _, P16.out, ⟨rfl, rfl⟩, Nat.le_refl _⟩⟩
          obtain ⟨n1, n2, n3, n4, n5, n6, n7, n8⟩ := HFy.out.len
          clear U16 P16
          have c4 : w16.cell? ⟨w11.heap.size, 4, none⟩ = some (.slice r1.a4 yl.accts.length r1.c4) := by obtain ⟨m, us, X⟩ := XH.out; exact X.box.cell 4
          go_wp2_with fail
          clear c4
          go_loopw [88] (fun i wr => ∃ (k : Nat) (m : Led) (us : List (Value × Acc)), k ≤ yl.accts.length ∧ i = .int .i64 (k : Int) ∧ SQ w10.heap.size w11.heap.size w11.heap.size w16 wr r1 yl m us) (fun i _ => yl.accts.length - (intOf i).toNat)
          case atStart =>
            obtain ⟨m, us, X⟩ := XH.out
            exact ⟨0, m, us, by omega, rfl, X⟩
          case round =>
            clear XH
            obtain ⟨k, m, us, hk, rfl, X⟩ := hrel
            by_cases hlt : k < yl.accts.length
            · have hkm : k < m.accts.length := by rw [X.len.1]; exact hlt
              have hku : k < us.length := by rw [X.usLen]; exact hlt
              obtain ⟨g4, ha⟩ := X.own.addr (by omega)
              have hcc := X.own.cashCell hku ha
              obtain ⟨cv, hcv⟩ : ∃ v, us[k].1 = v := ⟨_, rfl⟩
              obtain ⟨ca, cap, hform, _, _⟩ : ∃ a cap, us[k].1 = .slice a us[k].2.cash.length cap ∧ us[k].2.cash.length ≤ cap ∧ True := by
                obtain ⟨a, cap, h1, h2, h3⟩ := X.own.at_.cash _ (List.getElem_mem hku)
                exact ⟨a, cap, h1, h2, trivial⟩
              have hacc := X.own.acc hku hkm
              rw [hacc] at hform
              have cb2 : wr.cell? ⟨w11.heap.size, 4, none⟩ = some (.slice r1.a4 yl.accts.length r1.c4) := X.box.cell 4
              rw [ha] at cb2
              rw [hform] at hcc hcv
              subst hcv
              have HA := Lib.hid ha
              have HForm := Lib.hid hform
              have HBigN : (m.accts[k]).cash.length ≤ 9223372036854775807 := by
                have := (X.own.cash _ (List.getElem_mem hku)).1
                rcases (X.own.cash _ (List.getElem_mem hku)).2 with ⟨_, h0⟩ | ⟨_, cap', cur', _, _, _, h1, h2, _⟩
                · rw [← hacc]; omega
                · rw [← hacc]; unfold maxLen at h2; omega
              have XO := Lib.hid X
              clear X ha hform hacc
              go_wp2_with fail
              clear hcc cb2
              go_loopw [98] (fun i wr => ∃ (q : Nat) (m2 : Led) (us2 : List (Value × Acc)), q ≤ (m.accts[k]).cash.length ∧ i = .int .i64 (q : Int) ∧ SQ w10.heap.size w11.heap.size w11.heap.size w16 wr r1 yl m2 us2 ∧ Hid (us2.map (·.1) = us.map (·.1)) ∧ Hid (∀ h : k < m2.accts.length, (m2.accts[k]).cash.length = (m.accts[k]).cash.length)) (fun i _ => (m.accts[k]).cash.length - (intOf i).toNat)
              case atStart => exact ⟨0, m, us, by omega, rfl, XO.out, rfl, fun _ => rfl⟩
              case round =>
                clear XO
                obtain ⟨q, m2, us2, hq, rfl, X, HM, HCL⟩ := hrel
                have hkm2 : k < m2.accts.length := by rw [X.len.1]; exact hlt
                have hku2 : k < us2.length := by rw [X.usLen]; exact hlt
                have hfst : us2[k].1 = us[k].1 := by
                  have := congrArg (fun l => l[k]?) HM.out
                  simpa [hku2, hku] using this
                have hcc := X.own.cashCell hku2 HA.out
                rw [hfst, HForm.out] at hcc
                have cb2 : wr.cell? ⟨w11.heap.size, 4, none⟩ = some (.slice r1.a4 yl.accts.length r1.c4) := X.box.cell 4
                rw [HA.out] at cb2
                by_cases hql : q < (m.accts[k]).cash.length
                · obtain ⟨g, cap', e1, ⟨u, hu⟩, hfr, XN⟩ := X.put_cash hku2 hkm2 (c := q) (by rw [HCL.out hkm2]; exact hql)
                  rw [hfst, HForm.out] at e1
                  obtain rfl : ca = some ⟨g, 0, none⟩ := by injection e1
                  have XNH := Lib.hid XN
                  have HM2 : Hid ((us2.modify k (putV q (-9))).map (·.1) = us.map (·.1)) := by unfold Hid; rw [modify_fst]; exact HM.out
                  have HCL2 : Hid (∀ h : k < (setCash m2 k q (-9)).accts.length, ((setCash m2 k q (-9)).accts[k]).cash.length = (m.accts[k]).cash.length) := fun h => by rw [setCash_cash m2 k q (-9) k hkm2]; exact HCL.out hkm2
                  clear X XN e1 hfst
                  go_wp2_with fail
                  go_roundw
                  case rel => exact ⟨q + 1, _, _, by omega, by go_num, XNH.out, HM2, HCL2⟩
                  case measure => simp [intOf]; omega
                · have hr := X.own.accts
                  rw [HA.out] at hr
                  obtain ⟨u0, d0⟩ : ∃ u, wr.cell? ⟨g4, k * 4, none⟩ = some u := own_cell hr (k * 4) (by omega)
                  obtain ⟨u1, d1⟩ : ∃ u, wr.cell? ⟨g4, k * 4 + 1, none⟩ = some u := own_cell hr (k * 4 + 1) (by omega)
                  obtain ⟨u2, d2⟩ : ∃ u, wr.cell? ⟨g4, k * 4 + 2, none⟩ = some u := own_cell hr (k * 4 + 2) (by omega)
                  obtain ⟨u3, d3⟩ : ∃ u, wr.cell? ⟨g4, k * 4 + 3, none⟩ = some u := own_cell hr (k * 4 + 3) (by omega)
                  have t0 : wr.frozen? ⟨g4, k * 4, none⟩ = false := hr.frozenAt (k * 4)
                  have t1 : wr.frozen? ⟨g4, k * 4 + 1, none⟩ = false := hr.frozenAt (k * 4 + 1)
                  have t2 : wr.frozen? ⟨g4, k * 4 + 2, none⟩ = false := hr.frozenAt (k * 4 + 2)
                  have t3 : wr.frozen? ⟨g4, k * 4 + 3, none⟩ = false := hr.frozenAt (k * 4 + 3)
                  have XN := Lib.hid (X.put_acct hku2 HA.out)
                  clear X hr hcc hfst HM HCL
                  go_wp2_with fail
                  go_roundw
                  case rel => exact ⟨k + 1, _, _, by omega, by go_num, XN.out⟩
                  case measure => simp [intOf]; omega
            · have XH : Hid (∃ m us, SQ w10.heap.size w11.heap.size w11.heap.size w16 wr r1 yl m us) := ⟨m, us, X⟩
              have c7 : wr.cell? ⟨w11.heap.size, 7, none⟩ = some (.slice r1.a7 yl.avail.length r1.c7) := X.box.cell 7
              clear X
              go_wp2_with fail
              clear c7
              go_loopw [119] (fun i wr => ∃ (k : Nat) (m : Led) (us : List (Value × Acc)), k ≤ yl.avail.length ∧ i = .int .i64 (k : Int) ∧ SQ w10.heap.size w11.heap.size w11.heap.size w16 wr r1 yl m us) (fun i _ => yl.avail.length - (intOf i).toNat)
              case atStart =>
                obtain ⟨m, us, X⟩ := XH.out
                exact ⟨0, m, us, by omega, rfl, X⟩
              case round =>
                clear XH
                obtain ⟨k, m, us, hk, rfl, X⟩ := hrel
                by_cases hlt : k < yl.avail.length
                · have hkm : k < m.avail.length := by rw [X.len.2]; exact hlt
                  obtain ⟨g, ha, _, _⟩ := own_block X.own.avail (by omega)
                  have hr := X.own.avail
                  rw [ha] at hr
                  obtain ⟨u0, d0⟩ : ∃ u, wr.cell? ⟨g, k, none⟩ = some u := own_cell hr k (by omega)
                  have t0 : wr.frozen? ⟨g, k, none⟩ = false := hr.frozenAt k
                  have cb2 : wr.cell? ⟨w11.heap.size, 7, none⟩ = some (.slice r1.a7 yl.avail.length r1.c7) := X.box.cell 7
                  have XN := Lib.hid (X.put_avail hkm ha)
                  rw [ha] at cb2
                  clear hr X ha
                  go_wp2_with fail
                  go_roundw
                  case rel => exact ⟨k + 1, _, us, by omega, by go_num, XN.out⟩
                  case measure => simp [intOf]; omega
                · have OO9 := Lib.hid X.only
                  clear X
                  have hw : w10.heap.size ≤ w16.heap.size := by omega
                  have X17 := Lib.hid (X16.out.keepB (OO9.out.below hw) (by omega))
                  have B17 := Lib.hid (owns_under B16.out (fun j hj => by have := (lt7.out j hj).2; omega) (OO9.out.below hw))
                  have D17 := Lib.hid (owns_under D16.out (fun j hj => by have := (lt9.out j hj).2; omega) (OO9.out.below hw))
                  have V17 := Lib.hid (OO9.out.led V16.out (by omega))
                  have Q17 := Lib.hid (OO9.out.box Q16.out (.inr (by omega)))
                  clear X16 B16 D16 V16 Q16 OO9 hw
                  have k0 : wr.cell? ⟨w.heap.size, 0, none⟩ = some (.int .i64 l.day) := X17.out.led.cell 0
                  have k1 : wr.cell? ⟨w.heap.size, 1, none⟩ = some (.slice s.a1 l.curs.length s.c1) := X17.out.led.cell 1
                  have k2 : wr.cell? ⟨w.heap.size, 2, none⟩ = some (.slice s.a2 l.unders.length s.c2) := X17.out.led.cell 2
                  have k3 : wr.cell? ⟨w.heap.size, 3, none⟩ = some (.slice s.a3 l.instrs.length s.c3) := X17.out.led.cell 3
                  have k4 : wr.cell? ⟨w.heap.size, 4, none⟩ = some (.slice s.a4 l.accts.length s.c4) := X17.out.led.cell 4
                  have k5 : wr.cell? ⟨w.heap.size, 5, none⟩ = some (.slice s.a5 l.poss.length s.c5) := X17.out.led.cell 5
                  have k6 : wr.cell? ⟨w.heap.size, 6, none⟩ = some (.slice s.a6 l.orders.length s.c6) := X17.out.led.cell 6
                  have k7 : wr.cell? ⟨w.heap.size, 7, none⟩ = some (.slice s.a7 l.avail.length s.c7) := X17.out.led.cell 7
                  have k8 : wr.cell? ⟨w.heap.size, 8, none⟩ = some (.slice s.a8 l.locs.length s.c8) := X17.out.led.cell 8
                  go_upto_region 40 with (go_at_call 12; refine (HRI.out _ (HLT.out.keep X17.out.low)).mono ?_; rintro e w18 ⟨o18, rfl, own18, b18⟩)
                  have X18 := Lib.hid (X17.out.keep b18)
                  have B18 := Lib.hid (owns_below B17.out b18)
                  have D18 := Lib.hid (owns_below D17.out b18)
                  have V18 := Lib.hid (V17.out.below b18)
                  have Q18 := Lib.hid (Q17.out.keep b18)
                  obtain ⟨a18, c18, rfl, _, _, _, _, _⟩ := at_of_owns own18
                  have E18 := Lib.hid own18
                  clear k0 k1 k2 k3 k4 k5 k6 k7 k8 X17 B17 D17 V17 Q17 own18 b18 HRI
                  have e0 : w18.cell? ⟨w.heap.size + 1, 0, none⟩ = some (.int .i64 x.kind) := X18.out.ev.cell 0
                  have e1 : w18.cell? ⟨w.heap.size + 1, 1, none⟩ = some (.int .i64 x.acct) := X18.out.ev.cell 1
                  have e2 : w18.cell? ⟨w.heap.size + 1, 2, none⟩ = some (.int .i64 x.id) := X18.out.ev.cell 2
                  have e3 : w18.cell? ⟨w.heap.size + 1, 3, none⟩ = some (.int .i64 x.new) := X18.out.ev.cell 3
                  have e4 : w18.cell? ⟨w.heap.size + 1, 4, none⟩ = some (.int .i64 x.instr) := X18.out.ev.cell 4
                  have e5 : w18.cell? ⟨w.heap.size + 1, 5, none⟩ = some (.int .i64 x.under) := X18.out.ev.cell 5
                  have e6 : w18.cell? ⟨w.heap.size + 1, 6, none⟩ = some (.int .i64 x.cur) := X18.out.ev.cell 6
                  have e7 : w18.cell? ⟨w.heap.size + 1, 7, none⟩ = some (.int .i64 x.qty) := X18.out.ev.cell 7
                  have e8 : w18.cell? ⟨w.heap.size + 1, 8, none⟩ = some (.int .i64 x.price) := X18.out.ev.cell 8
                  have e9 : w18.cell? ⟨w.heap.size + 1, 9, none⟩ = some (.int .i64 x.amount) := X18.out.ev.cell 9
                  have e10 : w18.cell? ⟨w.heap.size + 1, 10, none⟩ = some (.bool x.call) := X18.out.ev.cell 10
                  have e11 : w18.cell? ⟨w.heap.size + 1, 11, none⟩ = some (.string ⟨x.name.toArray⟩) := X18.out.ev.cell 11
                  go_upto_region 41 with (go_at_call 13; refine (HRE.out _).mono ?_; rintro e w19 ⟨o19, rfl, own19, b19⟩)
                  have X19 := Lib.hid (X18.out.keep b19)
                  have B19 := Lib.hid (owns_at (owns_below B18.out b19)).1
                  have D19 := Lib.hid (owns_at (owns_below D18.out b19)).1
                  have E19 := Lib.hid (owns_at (owns_below E18.out b19)).1
                  have V19 := Lib.hid (V18.out.below b19)
                  have Q19 := Lib.hid (Q18.out.keep b19)
                  obtain ⟨a19, c19, rfl, _, _, at19, _, _⟩ := at_of_owns own19
                  have F19 := Lib.hid at19
                  clear e0 e1 e2 e3 e4 e5 e6 e7 e8 e9 e10 e11 X18 B18 D18 V18 Q18 E18 own19 b19 HRE at19
                  have S1 := Lib.hid (fun W (b : Below w19.heap.size w19 W) => isame_calls a7 a18 c7 c18 en en W z1.out z1.out (B19.out.keep b) (E19.out.keep b))
                  have S2 := Lib.hid (fun W (b : Below w19.heap.size w19 W) => isame_calls a9 a19 c9 c19 ec ec W z2.out z2.out (D19.out.keep b) (F19.out.keep b))
                  simp only [decide_true] at S1 S2
                  have k0 : w19.cell? ⟨w.heap.size, 0, none⟩ = some (.int .i64 l.day) := X19.out.led.cell 0
                  have k1 : w19.cell? ⟨w.heap.size, 1, none⟩ = some (.slice s.a1 l.curs.length s.c1) := X19.out.led.cell 1
                  have k2 : w19.cell? ⟨w.heap.size, 2, none⟩ = some (.slice s.a2 l.unders.length s.c2) := X19.out.led.cell 2
                  have k3 : w19.cell? ⟨w.heap.size, 3, none⟩ = some (.slice s.a3 l.instrs.length s.c3) := X19.out.led.cell 3
                  have k4 : w19.cell? ⟨w.heap.size, 4, none⟩ = some (.slice s.a4 l.accts.length s.c4) := X19.out.led.cell 4
                  have k5 : w19.cell? ⟨w.heap.size, 5, none⟩ = some (.slice s.a5 l.poss.length s.c5) := X19.out.led.cell 5
                  have k6 : w19.cell? ⟨w.heap.size, 6, none⟩ = some (.slice s.a6 l.orders.length s.c6) := X19.out.led.cell 6
                  have k7 : w19.cell? ⟨w.heap.size, 7, none⟩ = some (.slice s.a7 l.avail.length s.c7) := X19.out.led.cell 7
                  have k8 : w19.cell? ⟨w.heap.size, 8, none⟩ = some (.slice s.a8 l.locs.length s.c8) := X19.out.led.cell 8
                  have m0 : w19.cell? ⟨w13.heap.size, 0, none⟩ = some (.int .i64 yl.day) := Q19.out.cell 0
                  have m1 : w19.cell? ⟨w13.heap.size, 1, none⟩ = some (.slice r2.a1 yl.curs.length r2.c1) := Q19.out.cell 1
                  have m2 : w19.cell? ⟨w13.heap.size, 2, none⟩ = some (.slice r2.a2 yl.unders.length r2.c2) := Q19.out.cell 2
                  have m3 : w19.cell? ⟨w13.heap.size, 3, none⟩ = some (.slice r2.a3 yl.instrs.length r2.c3) := Q19.out.cell 3
                  have m4 : w19.cell? ⟨w13.heap.size, 4, none⟩ = some (.slice r2.a4 yl.accts.length r2.c4) := Q19.out.cell 4
                  have m5 : w19.cell? ⟨w13.heap.size, 5, none⟩ = some (.slice r2.a5 yl.poss.length r2.c5) := Q19.out.cell 5
                  have m6 : w19.cell? ⟨w13.heap.size, 6, none⟩ = some (.slice r2.a6 yl.orders.length r2.c6) := Q19.out.cell 6
                  have m7 : w19.cell? ⟨w13.heap.size, 7, none⟩ = some (.slice r2.a7 yl.avail.length r2.c7) := Q19.out.cell 7
                  have m8 : w19.cell? ⟨w13.heap.size, 8, none⟩ = some (.slice r2.a8 yl.locs.length r2.c8) := Q19.out.cell 8
                  by_cases he : ke = 0
                  · subst he
                    have HD : Hid (decide (yl = l) = true) := decide_eq_true (HY.out rfl)
                    rw [HD.out] at HSy
                    by_cases hf : kf = 0
                    · subst hf
                      go_wp2_with (first | (go_at_call 10; refine (HSy.out _ _ _ V19.out.at_ (HLT.out.keep X19.out.low)).mono ?_; rintro e w20 ⟨rfl, b20⟩) | (go_at_call 14; refine (S2.out _ (b20.trans (b21.mono b20.size))).mono ?_; rintro e w22 ⟨rfl, hn22⟩; have b22 := bel_of hn22; clear hn22) | (go_at_call 14; refine (S1.out _ b20).mono ?_; rintro e w21 ⟨rfl, hn21⟩; have b21 := bel_of hn21; clear hn21))
                      go_ret
                      exact ⟨rfl, (((X19.out.keep b20).keep b21).keep b22).low⟩
                    · have hfb : (kf != 0) = true := by simpa using hf
                      clear hf
                      go_wp2_with (first | (go_at_call 10; refine (HSy.out _ _ _ V19.out.at_ (HLT.out.keep X19.out.low)).mono ?_; rintro e w20 ⟨rfl, b20⟩) | (go_at_call 14; refine (S1.out _ b20).mono ?_; rintro e w21 ⟨rfl, hn21⟩; have b21 := bel_of hn21; clear hn21))
                      go_ret
                      exact ⟨rfl, ((X19.out.keep b20).keep b21).low⟩
                  · have heb : (ke != 0) = true := by simpa using he
                    clear he
                    by_cases hf : kf = 0
                    · subst hf
                      go_wp2_with (go_at_call 14; refine (S2.out _ (Below.refl _ _)).mono ?_; rintro e w22 ⟨rfl, hn22⟩; have b22 := bel_of hn22; clear hn22)
                      go_ret
                      exact ⟨rfl, (X19.out.keep b22).low⟩
                    · have hfb : (kf != 0) = true := by simpa using hf
                      clear hf
                      go_wp2_with fail
                      go_ret
                      exact ⟨rfl, X19.out.low⟩

set_option maxRecDepth 100000 in
theorem opened (H : Type) (enc : TypeId × Value → H) (W : World) (base : Nat) (args : Array Value) (ds : List (DataW H)) (p : List MemPlace)
    (hval : ∀ (j : Nat) t v, Tryz.f3.params[j]? = some t → args[j]? = some v → Value.okWide Tryz.prog W .any base t v)
    (hA : DataW.TrodAll enc Tryz.prog W 0 (fun _ => true) true Tryz.f3.params.toList args.toList ds p)
    (hr : ∀ x ∈ DataW.weightsEach Tryz.prog Tryz.f3.params.toList ds, x ≤ reachBytes)
    (hL : laidMetH Tryz.prog Rows.imageKeepsRow.laid W) :
    Calls Tryz.prog 3 args W fun e W' => e = .returned (.bool true) ∧ Below W.heap.size W W' := by
  rw [Tryz.params3] at hA hval hr
  have _ := hL
  obtain ⟨v0, vs0, d0, ds0, p0, q0, hargs, rfl, rfl, h0, r0⟩ := trodAll_cons hA
  obtain ⟨v1, vs1, d1, ds1, p1, q1, rfl, rfl, rfl, h1, r1⟩ := trodAll_cons r0
  obtain ⟨rfl, rfl, rfl⟩ := trodAll_nil r1
  obtain rfl : args = #[v0, v1] := by cases args; simp_all
  obtain ⟨s, l, vs, rfl, hat, hok, hb⟩ := open_ledger2 (hval 0 31 v0 rfl rfl) h0 (fun x hx => hr x (by simp only [DataW.weightsEach, List.mem_append]; exact .inl hx))
  obtain ⟨x, rfl, hn, _⟩ := open_evr (hval 1 33 v1 rfl rfl) h1 (fun x hx => hr x (by simp only [DataW.weightsEach, List.mem_append]; exact .inr (.inl hx)))
  exact walk s l vs x W hat hok hb hn
end Go.Proofs.YtocjfjikkdpfdaaGreatDoor.imageKeeps
namespace Go.Proofs.YtocjfjikkdpfdaaGreatDoor.imageKeeps
open Go.ChangeShapes Go.WideShapes Go.ChangeAt Go.RowKit Go.Proofs.YtocjfjikkdpfdaaGreatDoor.Bas

theorem own : ownKnob Tryz.prog.godebug = none := by kernel_rfl
theorem laidOut : laidOutB Tryz.prog = true := by kernel_rfl

set_option maxRecDepth 100000 in
theorem contract (H : Type) (enc : TypeId × Value → H) (W : World) (base : Nat) (args : Array Value) (ds gs : List (DataW H)) (before : List MemPlace)
    (hval : ∀ (j : Nat) t v, Tryz.f3.params[j]? = some t → args[j]? = some v → Value.okWide Tryz.prog W .any base t v)
    (hW : DataW.Whole enc Tryz.prog Tryz.f3.params.toList Rows.imageKeepsSpec.vars false W args.toList ds gs before)
    (hr : (DataW.weightsEach Tryz.prog (Tryz.f3.params.toList ++ (OpenSpec.ofChange Rows.imageKeepsSpec).bare.plain.varTypes Tryz.prog) (ds ++ gs)).all (· ≤ reachBytes) = true)
    (hL : laidMetH Tryz.prog Rows.imageKeepsRow.laid W) :
    Calls Tryz.prog 3 args W fun e W' => ∃ v, e = .returned v ∧ Rows.imageKeepsSpec.post enc Tryz.prog Tryz.f3 false true false false W args v W' := by
  refine law_post laidOut (by kernel_rfl) 4 rfl Tryz.underlying4 rfl (fun H ds h => match ds, h with | [_, _], _ => rfl) hW ?_
  obtain ⟨p, q, hA, hV, rfl, hfz, hnd⟩ := hW
  obtain ⟨rfl, rfl⟩ := trodVars_none hV
  rw [List.append_nil, List.all_eq_true] at hr
  exact opened H enc W base args ds p hval hA (fun x hx => by simpa using hr x (by rw [show Tryz.f3.params.toList ++ (OpenSpec.ofChange Rows.imageKeepsSpec).bare.plain.varTypes Tryz.prog = Tryz.f3.params.toList from List.append_nil _]; exact hx)) hL

/-- a world for the witness -/
noncomputable def laidWorld (os : Os) : World :=
  { World.holding Tryz.prog os ⟨#[], #[], []⟩ with heap := (((World.holding Tryz.prog os ⟨#[], #[], []⟩).heap.modify 1 (fun
      | .cells _ t frozen => .cells ImgW.acceptCells t frozen
      | o => o)).modify 0 (fun
      | .cells _ t frozen => .cells ImgW.firstCells t frozen
      | o => o)) }
theorem laid_met (os : Os) : laidMet Tryz.prog Rows.imageKeepsRow.laid ((laidWorld os).forCall (fun _ _ => 0) ⟨#[], #[.agg #[.int .i64 0, .slice none 0 0, .slice none 0 0, .slice none 0 0, .slice none 0 0, .slice none 0 0, .slice none 0 0, .slice none 0 0, .slice none 0 0], .agg #[.int .i64 0, .int .i64 0, .int .i64 0, .int .i64 0, .int .i64 0, .int .i64 0, .int .i64 0, .int .i64 0, .int .i64 0, .int .i64 0, .bool false, .string ⟨#[]⟩]], []⟩).memory :=
  laidMet_of_run' 8 (by kernel_rfl) (by kernel_rfl)
theorem reads (os : Os) {H : Type} (enc : TypeId × Value → H) : ∃ places, DataW.whole enc Tryz.prog ((laidWorld os).forCall (fun _ _ => 0) ⟨#[], #[.agg #[.int .i64 0, .slice none 0 0, .slice none 0 0, .slice none 0 0, .slice none 0 0, .slice none 0 0, .slice none 0 0, .slice none 0 0, .slice none 0 0], .agg #[.int .i64 0, .int .i64 0, .int .i64 0, .int .i64 0, .int .i64 0, .int .i64 0, .int .i64 0, .int .i64 0, .int .i64 0, .int .i64 0, .bool false, .string ⟨#[]⟩]], []⟩).memory Tryz.f3.params.toList Rows.imageKeepsSpec.vars false (#[.agg #[.int .i64 0, .slice none 0 0, .slice none 0 0, .slice none 0 0, .slice none 0 0, .slice none 0 0, .slice none 0 0, .slice none 0 0, .slice none 0 0], .agg #[.int .i64 0, .int .i64 0, .int .i64 0, .int .i64 0, .int .i64 0, .int .i64 0, .int .i64 0, .int .i64 0, .int .i64 0, .int .i64 0, .bool false, .string ⟨#[]⟩]] : Array Value).toList 8 = some ([.agg [.lit (.int .i64 0), .nil, .nil, .nil, .nil, .nil, .nil, .nil, .nil], .agg [.lit (.int .i64 0), .lit (.int .i64 0), .lit (.int .i64 0), .lit (.int .i64 0), .lit (.int .i64 0), .lit (.int .i64 0), .lit (.int .i64 0), .lit (.int .i64 0), .lit (.int .i64 0), .lit (.int .i64 0), .lit (.bool false), .lit (.string [])]], [], places) :=
  ⟨[], by kernel_rfl⟩

set_option maxRecDepth 100000 in
theorem lifted (os : Os) (started : os.Started) (H : Type) (enc : TypeId × Value → H) (F : Stop.Interp) :
    ReturnsInHanded {} Tryz.checked os 3 .any ((OpenSpec.ofChange Rows.imageKeepsSpec).preRow enc Tryz.prog Tryz.f3 Rows.imageKeepsRow.domain false Rows.imageKeepsRow.laid) (((OpenSpec.ofChange Rows.imageKeepsSpec).at F).post enc Tryz.prog Tryz.f3 false true false false) := by
  obtain ⟨places, hx⟩ := reads os enc
  refine returnsInHanded_of_row (C := Tryz.checked) (s := (OpenSpec.ofChange Rows.imageKeepsSpec)) own started (by kernel_rfl) Tryz.func3
    (witness_row_at (enc := enc) (C := Tryz.checked) false (laidWorld os) #[.agg #[.int .i64 0, .slice none 0 0, .slice none 0 0, .slice none 0 0, .slice none 0 0, .slice none 0 0, .slice none 0 0, .slice none 0 0, .slice none 0 0], .agg #[.int .i64 0, .int .i64 0, .int .i64 0, .int .i64 0, .int .i64 0, .int .i64 0, .int .i64 0, .int .i64 0, .int .i64 0, .int .i64 0, .bool false, .string ⟨#[]⟩]] rfl (by kernel_rfl) (by kernel_rfl) (by kernel_rfl)
      (OpenSpec.preRow_of_cond 8 hx (by kernel_rfl) (fun k hk => by cases hk) (by kernel_rfl) (laid_met os))) ?_
  intro W base args ds gs before hval hW _ _ hr hL _ _
  exact contract H enc W base args ds gs before hval hW hr hL

theorem said : Rows.ImageKeepsSaid :=
  OpenClaim.holds_of_cond 3 Tryz.f3 rfl rfl rfl rfl rfl rfl rfl ⟨rfl, rfl, rfl, rfl, rfl⟩ rfl rfl rfl rfl rfl (by kernel_rfl) Tryz.func3 (by kernel_rfl)
    (of_decide_eq_true (by kernel_rfl)) (by unfold Func.isWrapper; first | (rw [if_pos (by decide +kernel)]; kernel_rfl) | (rw [if_neg (by decide +kernel)]; exact ⟨rfl, rfl⟩))
    (fun os started H enc _ F => by rw [OpenClaim.pre_eq_preRow]; exact lifted os started H enc F)

theorem plain (f : FuncId) (fn : Func) (hf : Tryz.pinned.checked.prog.funcNamed "bulwark/bulwarklaw21.ImageKeeps" = some f) (hfn : Tryz.pinned.checked.prog.funcs[f]? = some fn) :
    true = Tryz.pinned.checked.prog.looks [] ∧ ∀ (j : Nat) t, fn.params[j]? = some t → Tryz.pinned.checked.prog.wantsStandIn t = false := by
  obtain rfl : f = 3 := Option.some.inj ((show Tryz.prog.funcNamed "bulwark/bulwarklaw21.ImageKeeps" = some 3 by kernel_rfl).symm.trans hf) |>.symm
  obtain rfl : fn = Tryz.f3 := (Option.some.inj (Tryz.func3.symm.trans hfn)).symm
  refine ⟨by kernel_rfl, fun j t ht => ?_⟩
  rw [Tryz.params3] at ht
  have hall : ∀ t ∈ #[31, 33], Tryz.prog.wantsStandIn t = false := by
    intro t h
    simp only [List.mem_toArray, List.mem_cons, List.not_mem_nil, or_false] at h
    rcases h with rfl | rfl
    all_goals kernel_rfl
  exact hall t (Array.mem_of_getElem? ht)

theorem card : Rows.ImageKeepsCardSaid :=
  Claim7.holds_tied_plain_at .later [] _ _ _ _ said (fun _ h => by cases h) (by kernel_rfl) (fun _ h => by cases h) imageKeeps_row_tie rfl ⟨rfl, rfl⟩ (by kernel_rfl) rfl plain (by kernel_rfl)

end Go.Proofs.YtocjfjikkdpfdaaGreatDoor.imageKeeps
