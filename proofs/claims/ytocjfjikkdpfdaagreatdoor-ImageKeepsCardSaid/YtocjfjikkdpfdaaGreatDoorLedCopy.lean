/- Copy of a ledger: in new memory. Written by gencopy.py. -/
import Derived.Test.YtocjfjikkdpfdaaGreatDoorLedMid
import Derived.Test.YtocjfjikkdpfdaaGreatDoorLedGood
import Derived.Test.YtocjfjikkdpfdaaGreatDoorBaseStage
import Derived.Test.YtocjfjikkdpfdaaGreatDoorBaseRow
set_option linter.unusedSimpArgs false
set_option linter.unusedVariables false
namespace Go.Proofs.YtocjfjikkdpfdaaGreatDoor.LedW
open Go.RowKit Go.Proofs.YtocjfjikkdpfdaaGreatDoor.Bas Go.Proofs.YtocjfjikkdpfdaaGreatDoor.LedM

def zeroL : Array Value := #[.int .i64 0, .slice none 0 0, .slice none 0 0, .slice none 0 0, .slice none 0 0, .slice none 0 0, .slice none 0 0, .slice none 0 0, .slice none 0 0]
/-- the two boxes of a copying call -/
structure Cp (w W : World) (cs : Array Value) : Prop where
  low : Below w.heap.size w W
  b1 : Box W w.heap.size 31 cs
  b2 : Box W (w.heap.size + 1) 31 zeroL
theorem Cp.keep {w A B : World} {cs : Array Value} (h : Cp w A cs) (b : Below A.heap.size A B) : Cp w B cs := ⟨h.low.trans (b.mono h.low.size), h.b1.keep b, h.b2.keep b⟩
theorem Cp.drew {w A : World} {cs : Array Value} (h : Cp w A cs) : Cp w A.drew cs := ⟨h.low.drew, h.b1, h.b2⟩
theorem Cp.set {w A : World} {cs : Array Value} (h : Cp w A cs) (k : Nat) (u : Value) : Cp w (A.setCell ⟨w.heap.size, k, none⟩ u) (cs.setIfInBounds k u) :=
  ⟨h.low.setCell (Nat.le_refl _) u, h.b1.set k u, h.b2.far (by simp) u⟩
theorem own_box {W : World} {b : Nat} {e t : TypeId} {z g k : Nat} {v u : Value} {n : Nat} {xs : List Value} {cs : Array Value} (h : W.ownsRow b e z v n xs) (hg : Box W g t cs) (hne : e ≠ t) : (W.setCell ⟨g, k, none⟩ u).ownsRow b e z v n xs := by
  refine h.kept (row := some g) ⟨rfl, rfl, rfl, by simp, fun j _ hj => heap_setCell_other W ⟨g, k, none⟩ j u (fun e => hj (by simp [e]))⟩ ?_
  rcases h.2 with ⟨rfl, _⟩ | ⟨g', _, _, rfl, _, hh, _⟩
  · exact .inl rfl
  · refine .inr fun e => ?_
    simp [Value.ownBlock] at e
    subst e
    unfold Box at hg
    rw [hg] at hh
    injection hh with hh
    injection hh with _ ht
    exact hne ht.symm
theorem own_drew {W : World} {b : Nat} {e : TypeId} {z : Nat} {v : Value} {n : Nat} {xs : List Value} (h : W.ownsRow b e z v n xs) : W.drew.ownsRow b e z v n xs := h
theorem one_cash {W : World} {s : Lists} {l : Led} {vs : List (Value × Acc)} (h : LedAt W s l vs) : ∀ x ∈ vs, x.1.oneCell' = true := fun x hx => by
  obtain ⟨a, c, h1, _⟩ := h.cash x hx
  rw [h1]; rfl
theorem mid_addr {base : Nat} {W : World} {s : Lists} {l : Led} {us : List (Value × Acc)} {k : Nat} (h : LedMid base W s l us k) (hk : k < l.accts.length) : ∃ g, s.a4 = some ⟨g, 0, none⟩ := by
  rcases h.accts.2 with ⟨_, h0⟩ | ⟨g, cap, cur, e1, _⟩
  · omega
  · injection e1 with e1
    exact ⟨g, e1⟩
theorem mid_cash {base : Nat} {W : World} {s : Lists} {l : Led} {us : List (Value × Acc)} {k : Nat} (h : LedMid base W s l us k) (hk : k < us.length) {g : Nat} (ha : s.a4 = some ⟨g, 0, none⟩) {v : Value} (hx : us[k].1 = v) : W.cell? ⟨g, k * 4 + 1, none⟩ = some v := by
  have hlen := h.len
  have hrow := h.accts
  rw [ha] at hrow
  have hcell := hrow.cellAt (k * 4 + 1) (by omega)
  rw [flat_cell (f := accC) (n := 4) (fun _ => rfl) hk (by decide)] at hcell
  rw [hcell, ← hx]
  rfl
theorem mid_drew {base : Nat} {W : World} {s : Lists} {l : Led} {us : List (Value × Acc)} {k : Nat} (h : LedMid base W s l us k) : LedMid base W.drew s l us k :=
  ⟨h.curs, h.unders, h.instrs, h.accts, h.poss, h.orders, h.avail, h.locs, h.each, h.cash, h.dist, h.free⟩
theorem cp_row {w A : World} {cs : Array Value} (h : Cp w A cs) {z n c m : Nat} {g : Nat} {xs : List Value} (hr : A.ownsRow w.heap.size 46 z (.slice (some ⟨g, 0, none⟩) m c) n xs) (hn : 0 < n) {k : Nat} {u : Value} : Cp w (A.setCell ⟨g, k, none⟩ u) cs := by
  rcases hr.2 with ⟨_, h0⟩ | ⟨g', cap, cur, e1, hb, hg, _⟩
  · omega
  · injection e1 with e1
    cases e1
    have ne : ∀ {j : Nat} {cs' : Array Value}, Box A j 31 cs' → j ≠ g := by
      rintro j cs' hj rfl
      unfold Box at hj
      rw [hg] at hj
      injection hj with hj
      injection hj with _ ht
      exact absurd ht (by decide)
    exact ⟨h.low.setCell hb u, h.b1.far (ne h.b1) u, h.b2.far (ne h.b2) u⟩
theorem LedOwn.box {base : Nat} {W : World} {s : Lists} {l : Led} {vs : List (Value × Acc)} (h : LedOwn base W s l vs) {g : Nat} {cs : Array Value} (hb : Box W g 31 cs) (k : Nat) (u : Value) : LedOwn base (W.setCell ⟨g, k, none⟩ u) s l vs :=
  ⟨own_box h.curs hb (by decide), own_box h.unders hb (by decide), own_box h.instrs hb (by decide), own_box h.accts hb (by decide), own_box h.poss hb (by decide), own_box h.orders hb (by decide), own_box h.avail hb (by decide), own_box h.locs hb (by decide), h.each, fun x hx => own_box (h.cash x hx) hb (by decide), h.dist, h.free⟩
/-- nine cells of a box are written, one behind the other -/
theorem fill_box {W : World} {g : Nat} {t : TypeId} (hb : Box W g t zeroL) (v0 v1 v2 v3 v4 v5 v6 v7 v8 : Value) : Box (((((((((W.setCell ⟨g, 0, none⟩ v0).setCell ⟨g, 1, none⟩ v1).setCell ⟨g, 2, none⟩ v2).setCell ⟨g, 3, none⟩ v3).setCell ⟨g, 4, none⟩ v4).setCell ⟨g, 5, none⟩ v5).setCell ⟨g, 6, none⟩ v6).setCell ⟨g, 7, none⟩ v7).setCell ⟨g, 8, none⟩ v8) g t #[v0, v1, v2, v3, v4, v5, v6, v7, v8] := by
  have := ((((((((hb.set 0 v0).set 1 v1).set 2 v2).set 3 v3).set 4 v4).set 5 v5).set 6 v6).set 7 v7).set 8 v8
  simpa [zeroL] using this
theorem fill_own {base : Nat} {W : World} {s : Lists} {l : Led} {vs : List (Value × Acc)} (h : LedOwn base W s l vs) {g : Nat} {cs : Array Value} (hb : Box W g 31 cs) (v0 v1 v2 v3 v4 v5 v6 v7 v8 : Value) : LedOwn base (((((((((W.setCell ⟨g, 0, none⟩ v0).setCell ⟨g, 1, none⟩ v1).setCell ⟨g, 2, none⟩ v2).setCell ⟨g, 3, none⟩ v3).setCell ⟨g, 4, none⟩ v4).setCell ⟨g, 5, none⟩ v5).setCell ⟨g, 6, none⟩ v6).setCell ⟨g, 7, none⟩ v7).setCell ⟨g, 8, none⟩ v8) s l vs := by
  have b1 := hb.set 0 v0; have b2 := b1.set 1 v1; have b3 := b2.set 2 v2; have b4 := b3.set 3 v3; have b5 := b4.set 4 v4; have b6 := b5.set 5 v5; have b7 := b6.set 6 v6; have b8 := b7.set 7 v7
  exact ((((((((h.box hb 0 v0).box b1 1 v1).box b2 2 v2).box b3 3 v3).box b4 4 v4).box b5 5 v5).box b6 6 v6).box b7 7 v7).box b8 8 v8
theorem fill_low {n : Nat} {w W : World} (h : Below n w W) {g : Nat} (hg : n ≤ g) (v0 v1 v2 v3 v4 v5 v6 v7 v8 : Value) : Below n w (((((((((W.setCell ⟨g, 0, none⟩ v0).setCell ⟨g, 1, none⟩ v1).setCell ⟨g, 2, none⟩ v2).setCell ⟨g, 3, none⟩ v3).setCell ⟨g, 4, none⟩ v4).setCell ⟨g, 5, none⟩ v5).setCell ⟨g, 6, none⟩ v6).setCell ⟨g, 7, none⟩ v7).setCell ⟨g, 8, none⟩ v8) :=
  ((((((((h.setCell (p := ⟨g, 0, none⟩) hg v0).setCell (p := ⟨g, 1, none⟩) hg v1).setCell (p := ⟨g, 2, none⟩) hg v2).setCell (p := ⟨g, 3, none⟩) hg v3).setCell (p := ⟨g, 4, none⟩) hg v4).setCell (p := ⟨g, 5, none⟩) hg v5).setCell (p := ⟨g, 6, none⟩) hg v6).setCell (p := ⟨g, 7, none⟩) hg v7).setCell (p := ⟨g, 8, none⟩) hg v8
theorem results_cell {P : Program} {fn : Func} {p : Tmp} {ty : TypeId} (h : fn.results = #[.cell p ty]) (tmps : Array Value) (w : World) {g : Nat} {t : TypeId} {cs : Array Value} {d : TypeDesc}
    (hg : Box w g t cs) (hu : P.underlying ty = some d) (hd : (match d with | .struct _ | .array _ _ => true | _ => false) = true) (hi : (P.info? ty).map (·.size) = some cs.size)
    (hp : tmps.getD p undef = .pointer (some ⟨g, 0, none⟩)) : (results fn tmps).run P w = .ok (.agg cs) w := by
  have hp' : tmps[p]?.getD undef = .pointer (some ⟨g, 0, none⟩) := by simpa using hp
  simp [results, h, hp', asAddr, run_loadVar_row w g t ty cs (0, 0) d hg hu hd hi]
end Go.Proofs.YtocjfjikkdpfdaaGreatDoor.LedW
