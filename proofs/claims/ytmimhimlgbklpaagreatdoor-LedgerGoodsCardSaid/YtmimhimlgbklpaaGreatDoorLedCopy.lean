/- Copy of a ledger: in new memory. Written by gencopy.py. -/
import Derived.Test.YtmimhimlgbklpaaGreatDoorLedMid
import Derived.Test.YtmimhimlgbklpaaGreatDoorLedGood
import Derived.Test.YtmimhimlgbklpaaGreatDoorBaseStage
import Derived.Test.YtmimhimlgbklpaaGreatDoorBaseRow
set_option linter.unusedSimpArgs false
set_option linter.unusedVariables false
namespace Go.Proofs.YtmimhimlgbklpaaGreatDoor.LedW
open Go.RowKit Go.Proofs.YtmimhimlgbklpaaGreatDoor.Bas Go.Proofs.YtmimhimlgbklpaaGreatDoor.LedM

def zeroL : Array Value := #[.int .i64 0, .slice none 0 0, .slice none 0 0, .slice none 0 0, .slice none 0 0, .slice none 0 0, .slice none 0 0, .slice none 0 0, .slice none 0 0]
/-- the two boxes of a copying call -/
structure Cp (w W : World) (cs : Array Value) : Prop where
  low : Below w.heap.size w W
  b1 : Box W w.heap.size 31 cs
  b2 : Box W (w.heap.size + 1) 31 zeroL
theorem Cp.keep {w A B : World} {cs : Array Value} (h : Cp w A cs) (b : Below A.heap.size A B) : Cp w B cs := ⟨h.low.trans (b.mono h.low.size), h.b1.keep b, h.b2.keep b⟩
theorem Cp.drew {w A : World} {cs : Array Value} (h : Cp w A cs) : Cp w A.drew cs := ⟨h.low.drew, h.b1, h.b2⟩
theorem Cp.set {w A : World} {cs : Array Value} (h : Cp w A cs) (k : Nat) (u : Value) : Cp w (A.setCell ⟨w.heap.size, k, none⟩ u) (cs.setIfInBounds k u) :=
  ⟨h.low.setCell (Nat.le_refl _) u, h.b1.set k u, h.b2.far (by simp) u⟩
theorem own_box {W : World} {b : Nat} {e t : TypeId} {z g k : Nat} {v u : Value} {n : Nat} {xs : List Value} {cs : Array Value} (h : W.ownsRow b e z v n xs) (hg : Box W g t cs) (hne : e ≠ t) : (W.setCell ⟨g, k, none⟩ u).ownsRow b e z v n xs := by
  refine h.kept (row := some g) ⟨rfl, rfl, rfl, by simp, fun j _ hj => heap_setCell_other W ⟨g, k, none⟩ j u (fun e => hj (by simp [e]))⟩ ?_
  rcases h.2 with ⟨rfl, _⟩ | ⟨g', _, _, rfl, _, hh, _⟩
  · exact .inl rfl
  · refine .inr fun e => ?_
    simp [Value.ownBlock] at e
    subst e
    unfold Box at hg
    rw [hg] at hh
    injection hh with hh
    injection hh with _ ht
    exact hne ht.symm
theorem own_drew {W : World} {b : Nat} {e : TypeId} {z : Nat} {v : Value} {n : Nat} {xs : List Value} (h : W.ownsRow b e z v n xs) : W.drew.ownsRow b e z v n xs := h
theorem one_cash {W : World} {s : Lists} {l : Led} {vs : List (Value × Acc)} (h : LedAt W s l vs) : ∀ x ∈ vs, x.1.oneCell' = true := fun x hx => by
  obtain ⟨a, c, h1, _⟩ := h.cash x hx
  rw [h1]; rfl
theorem mid_addr {base : Nat} {W : World} {s : Lists} {l : Led} {us : List (Value × Acc)} {k : Nat} (h : LedMid base W s l us k) (hk : k < l.accts.length) : ∃ g, s.a4 = some ⟨g, 0, none⟩ := by
  rcases h.accts.2 with ⟨_, h0⟩ | ⟨g, cap, cur, e1, _⟩
  · omega
  · injection e1 with e1
    exact ⟨g, e1⟩
theorem mid_cash {base : Nat} {W : World} {s : Lists} {l : Led} {us : List (Value × Acc)} {k : Nat} (h : LedMid base W s l us k) (hk : k < us.length) {g : Nat} (ha : s.a4 = some ⟨g, 0, none⟩) {v : Value} (hx : us[k].1 = v) : W.cell? ⟨g, k * 4 + 1, none⟩ = some v := by
  have hlen := h.len
  have hrow := h.accts
  rw [ha] at hrow
  have hcell := hrow.cellAt (k * 4 + 1) (by omega)
  rw [flat_cell (f := accC) (n := 4) (fun _ => rfl) hk (by decide)] at hcell
  rw [hcell, ← hx]
  rfl
theorem mid_drew {base : Nat} {W : World} {s : Lists} {l : Led} {us : List (Value × Acc)} {k : Nat} (h : LedMid base W s l us k) : LedMid base W.drew s l us k :=
  ⟨h.curs, h.unders, h.instrs, h.accts, h.poss, h.orders, h.avail, h.locs, h.each, h.cash, h.dist, h.free⟩
theorem cp_row {w A : World} {cs : Array Value} (h : Cp w A cs) {z n c m : Nat} {g : Nat} {xs : List Value} (hr : A.ownsRow w.heap.size 39 z (.slice (some ⟨g, 0, none⟩) m c) n xs) (hn : 0 < n) {k : Nat} {u : Value} : Cp w (A.setCell ⟨g, k, none⟩ u) cs := by
  rcases hr.2 with ⟨_, h0⟩ | ⟨g', cap, cur, e1, hb, hg, _⟩
  · omega
  · injection e1 with e1
    cases e1
    have ne : ∀ {j : Nat} {cs' : Array Value}, Box A j 31 cs' → j ≠ g := by
      rintro j cs' hj rfl
      unfold Box at hj
      rw [hg] at hj
      injection hj with hj
      injection hj with _ ht
      exact absurd ht (by decide)
    exact ⟨h.low.setCell hb u, h.b1.far (ne h.b1) u, h.b2.far (ne h.b2) u⟩
theorem LedOwn.box {base : Nat} {W : World} {s : Lists} {l : Led} {vs : List (Value × Acc)} (h : LedOwn base W s l vs) {g : Nat} {cs : Array Value} (hb : Box W g 31 cs) (k : Nat) (u : Value) : LedOwn base (W.setCell ⟨g, k, none⟩ u) s l vs :=
  ⟨own_box h.curs hb (by decide), own_box h.unders hb (by decide), own_box h.instrs hb (by decide), own_box h.accts hb (by decide), own_box h.poss hb (by decide), own_box h.orders hb (by decide), own_box h.avail hb (by decide), own_box h.locs hb (by decide), h.each, fun x hx => own_box (h.cash x hx) hb (by decide), h.dist, h.free⟩
/-- nine cells of a box are written, one behind the other -/
theorem fill_box {W : World} {g : Nat} {t : TypeId} (hb : Box W g t zeroL) (v0 v1 v2 v3 v4 v5 v6 v7 v8 : Value) : Box (((((((((W.setCell ⟨g, 0, none⟩ v0).setCell ⟨g, 1, none⟩ v1).setCell ⟨g, 2, none⟩ v2).setCell ⟨g, 3, none⟩ v3).setCell ⟨g, 4, none⟩ v4).setCell ⟨g, 5, none⟩ v5).setCell ⟨g, 6, none⟩ v6).setCell ⟨g, 7, none⟩ v7).setCell ⟨g, 8, none⟩ v8) g t #[v0, v1, v2, v3, v4, v5, v6, v7, v8] := by
  have := ((((((((hb.set 0 v0).set 1 v1).set 2 v2).set 3 v3).set 4 v4).set 5 v5).set 6 v6).set 7 v7).set 8 v8
  simpa [zeroL] using this
theorem fill_own {base : Nat} {W : World} {s : Lists} {l : Led} {vs : List (Value × Acc)} (h : LedOwn base W s l vs) {g : Nat} {cs : Array Value} (hb : Box W g 31 cs) (v0 v1 v2 v3 v4 v5 v6 v7 v8 : Value) : LedOwn base (((((((((W.setCell ⟨g, 0, none⟩ v0).setCell ⟨g, 1, none⟩ v1).setCell ⟨g, 2, none⟩ v2).setCell ⟨g, 3, none⟩ v3).setCell ⟨g, 4, none⟩ v4).setCell ⟨g, 5, none⟩ v5).setCell ⟨g, 6, none⟩ v6).setCell ⟨g, 7, none⟩ v7).setCell ⟨g, 8, none⟩ v8) s l vs := by
  have b1 := hb.set 0 v0; have b2 := b1.set 1 v1; have b3 := b2.set 2 v2; have b4 := b3.set 3 v3; have b5 := b4.set 4 v4; have b6 := b5.set 5 v5; have b7 := b6.set 6 v6; have b8 := b7.set 7 v7
  exact ((((((((h.box hb 0 v0).box b1 1 v1).box b2 2 v2).box b3 3 v3).box b4 4 v4).box b5 5 v5).box b6 6 v6).box b7 7 v7).box b8 8 v8
theorem fill_low {n : Nat} {w W : World} (h : Below n w W) {g : Nat} (hg : n ≤ g) (v0 v1 v2 v3 v4 v5 v6 v7 v8 : Value) : Below n w (((((((((W.setCell ⟨g, 0, none⟩ v0).setCell ⟨g, 1, none⟩ v1).setCell ⟨g, 2, none⟩ v2).setCell ⟨g, 3, none⟩ v3).setCell ⟨g, 4, none⟩ v4).setCell ⟨g, 5, none⟩ v5).setCell ⟨g, 6, none⟩ v6).setCell ⟨g, 7, none⟩ v7).setCell ⟨g, 8, none⟩ v8) :=
  ((((((((h.setCell (p := ⟨g, 0, none⟩) hg v0).setCell (p := ⟨g, 1, none⟩) hg v1).setCell (p := ⟨g, 2, none⟩) hg v2).setCell (p := ⟨g, 3, none⟩) hg v3).setCell (p := ⟨g, 4, none⟩) hg v4).setCell (p := ⟨g, 5, none⟩) hg v5).setCell (p := ⟨g, 6, none⟩) hg v6).setCell (p := ⟨g, 7, none⟩) hg v7).setCell (p := ⟨g, 8, none⟩) hg v8
theorem results_cell {P : Program} {fn : Func} {p : Tmp} {ty : TypeId} (h : fn.results = #[.cell p ty]) (tmps : Array Value) (w : World) {g : Nat} {t : TypeId} {cs : Array Value} {d : TypeDesc}
    (hg : Box w g t cs) (hu : P.underlying ty = some d) (hd : (match d with | .struct _ | .array _ _ => true | _ => false) = true) (hi : (P.info? ty).map (·.size) = some cs.size)
    (hp : tmps.getD p undef = .pointer (some ⟨g, 0, none⟩)) : (results fn tmps).run P w = .ok (.agg cs) w := by
  have hp' : tmps[p]?.getD undef = .pointer (some ⟨g, 0, none⟩) := by simpa using hp
  simp [results, h, hp', asAddr, run_loadVar_row w g t ty cs (0, 0) d hg hu hd hi]
set_option maxHeartbeats 8000000 in
set_option maxRecDepth 100000 in
theorem copy_calls (s : Lists) (l : Led) (vs : List (Value × Acc)) (w : World) (hat : LedAt w s l vs) (hf : LedFit l) :
    Calls Tryz.prog 28 #[ledV s l] w fun e w' => ∃ s' us, e = .returned (ledV s' l) ∧ LedOwn w.heap.size w' s' l us ∧ Below w.heap.size w w' := by
  unfold ledV
  obtain ⟨n1, n2, n3, n4, n5, n6, n7, n8⟩ := hf.len
  have HFit := Lib.hid hf
  have HAt := Lib.hid hat
  have HLen := Lib.hid (LedAt.len hat)
  have K1 := Lib.hid (fun W h => clone_cur s.a1 s.c1 l.curs W (by omega) h)
  have K2 := Lib.hid (fun W h => clone_und s.a2 s.c2 l.unders W (by omega) h)
  have K3 := Lib.hid (fun W h => clone_ins s.a3 s.c3 l.instrs W (by omega) h)
  have K4 := Lib.hid (fun W h => clone_acc s.a4 s.c4 vs W (by have := HLen.out; omega) h (one_cash hat))
  have K5 := Lib.hid (fun W h => clone_pos s.a5 s.c5 l.poss W (by omega) h)
  have K6 := Lib.hid (fun W h => clone_ord s.a6 s.c6 l.orders W (by omega) h)
  have K7 := Lib.hid (fun W h => clone_int s.a7 s.c7 l.avail W (by omega) h)
  have K8 := Lib.hid (fun W h => clone_loc s.a8 s.c8 l.locs W (by omega) h)
  rw [HLen.out] at K4
  have HS0 : Cp w ((w.alloc (.cells #[.int .i64 l.day, .slice s.a1 l.curs.length s.c1, .slice s.a2 l.unders.length s.c2, .slice s.a3 l.instrs.length s.c3, .slice s.a4 l.accts.length s.c4, .slice s.a5 l.poss.length s.c5, .slice s.a6 l.orders.length s.c6, .slice s.a7 l.avail.length s.c7, .slice s.a8 l.locs.length s.c8] 31)).alloc (.cells zeroL 31)) #[.int .i64 l.day, .slice s.a1 l.curs.length s.c1, .slice s.a2 l.unders.length s.c2, .slice s.a3 l.instrs.length s.c3, .slice s.a4 l.accts.length s.c4, .slice s.a5 l.poss.length s.c5, .slice s.a6 l.orders.length s.c6, .slice s.a7 l.avail.length s.c7, .slice s.a8 l.locs.length s.c8] := by
    refine ⟨((Below.refl _ _).alloc (Nat.le_refl _) _).alloc (by simp) _, (Box.new _ _ _).alloc _, ?_⟩
    have := Box.new (w.alloc (.cells #[.int .i64 l.day, .slice s.a1 l.curs.length s.c1, .slice s.a2 l.unders.length s.c2, .slice s.a3 l.instrs.length s.c3, .slice s.a4 l.accts.length s.c4, .slice s.a5 l.poss.length s.c5, .slice s.a6 l.orders.length s.c6, .slice s.a7 l.avail.length s.c7, .slice s.a8 l.locs.length s.c8] 31)) 31 zeroL
    rwa [World.size_alloc] at this
  clear hat hf
  go_enter Tryz.func28, Tryz.ntmps28
  go_upto_region 1 with fail
  change Code.wp _ _ _ _ ((w.alloc (.cells #[.int .i64 l.day, .slice s.a1 l.curs.length s.c1, .slice s.a2 l.unders.length s.c2, .slice s.a3 l.instrs.length s.c3, .slice s.a4 l.accts.length s.c4, .slice s.a5 l.poss.length s.c5, .slice s.a6 l.orders.length s.c6, .slice s.a7 l.avail.length s.c7, .slice s.a8 l.locs.length s.c8] 31)).alloc (.cells zeroL 31))
  generalize ((w.alloc (.cells #[.int .i64 l.day, .slice s.a1 l.curs.length s.c1, .slice s.a2 l.unders.length s.c2, .slice s.a3 l.instrs.length s.c3, .slice s.a4 l.accts.length s.c4, .slice s.a5 l.poss.length s.c5, .slice s.a6 l.orders.length s.c6, .slice s.a7 l.avail.length s.c7, .slice s.a8 l.locs.length s.c8] 31)).alloc (.cells zeroL 31)) = w0 at *
  clear HLen
  refine stage_region 13 (fun W => W.cell? ⟨w.heap.size, 1, none⟩ = some (.slice s.a1 l.curs.length s.c1) ∧ W.cell? ⟨w.heap.size, 2, none⟩ = some (.slice s.a2 l.unders.length s.c2) ∧ W.cell? ⟨w.heap.size, 3, none⟩ = some (.slice s.a3 l.instrs.length s.c3) ∧ W.cell? ⟨w.heap.size, 4, none⟩ = some (.slice s.a4 l.accts.length s.c4) ∧ Cp w W #[.int .i64 l.day, .slice s.a1 l.curs.length s.c1, .slice s.a2 l.unders.length s.c2, .slice s.a3 l.instrs.length s.c3, .slice s.a4 l.accts.length s.c4, .slice s.a5 l.poss.length s.c5, .slice s.a6 l.orders.length s.c6, .slice s.a7 l.avail.length s.c7, .slice s.a8 l.locs.length s.c8]) (by kernel_rfl) ?_
  have HS := HS0.drew
  refine' stage_take (i := 0) _ rfl (by kernel_rfl) (by kernel_rfl) (by kernel_rfl) (by kernel_rfl) (fun _ _ _ h => h) ⟨HS.b1.cell 1, HS.b1.cell 2, HS.b1.cell 3, HS.b1.cell 4, HS⟩ _ (fun W hW => _) _
  rotate_left
  focus (go_simp; done)
  focus (obtain ⟨k1, k2, k3, k4, X9⟩ := hW; go_simp; first | done | (with_reducible rfl))
  simp only [Act.put, List.setIfInBounds_toArray, List.set_cons_zero, List.set_cons_succ]
  refine' stage_take (i := 1) _ rfl (by kernel_rfl) (by kernel_rfl) (by kernel_rfl) (by kernel_rfl) (fun _ _ _ h => h) ⟨HS.b1.cell 1, HS.b1.cell 2, HS.b1.cell 3, HS.b1.cell 4, HS⟩ _ (fun W hW => _) _
  rotate_left
  focus (go_simp; done)
  focus (obtain ⟨k1, k2, k3, k4, X9⟩ := hW; go_simp; first | done | (with_reducible rfl))
  simp only [Act.put, List.setIfInBounds_toArray, List.set_cons_zero, List.set_cons_succ]
  refine' stage_take (i := 3) _ rfl (by kernel_rfl) (by kernel_rfl) (by kernel_rfl) (by kernel_rfl) (fun _ _ _ h => h) ⟨HS.b1.cell 1, HS.b1.cell 2, HS.b1.cell 3, HS.b1.cell 4, HS⟩ _ (fun W hW => _) _
  rotate_left
  focus (go_simp; done)
  focus (obtain ⟨k1, k2, k3, k4, X9⟩ := hW; go_simp; first | done | (with_reducible rfl))
  simp only [Act.put, List.setIfInBounds_toArray, List.set_cons_zero, List.set_cons_succ]
  refine' stage_take (i := 4) _ rfl (by kernel_rfl) (by kernel_rfl) (by kernel_rfl) (by kernel_rfl) (fun _ _ _ h => h) ⟨HS.b1.cell 1, HS.b1.cell 2, HS.b1.cell 3, HS.b1.cell 4, HS⟩ _ (fun W hW => _) _
  rotate_left
  focus (go_simp; done)
  focus (obtain ⟨k1, k2, k3, k4, X9⟩ := hW; go_simp; first | done | (with_reducible rfl))
  simp only [Act.put, List.setIfInBounds_toArray, List.set_cons_zero, List.set_cons_succ]
  refine' stage_take (i := 6) _ rfl (by kernel_rfl) (by kernel_rfl) (by kernel_rfl) (by kernel_rfl) (fun _ _ _ h => h) ⟨HS.b1.cell 1, HS.b1.cell 2, HS.b1.cell 3, HS.b1.cell 4, HS⟩ _ (fun W hW => _) _
  rotate_left
  focus (go_simp; done)
  focus (obtain ⟨k1, k2, k3, k4, X9⟩ := hW; go_simp; first | done | (with_reducible rfl))
  simp only [Act.put, List.setIfInBounds_toArray, List.set_cons_zero, List.set_cons_succ]
  refine' stage_take (i := 7) _ rfl (by kernel_rfl) (by kernel_rfl) (by kernel_rfl) (by kernel_rfl) (fun _ _ _ h => h) ⟨HS.b1.cell 1, HS.b1.cell 2, HS.b1.cell 3, HS.b1.cell 4, HS⟩ _ (fun W hW => _) _
  rotate_left
  focus (go_simp; done)
  focus (obtain ⟨k1, k2, k3, k4, X9⟩ := hW; go_simp; first | done | (with_reducible rfl))
  simp only [Act.put, List.setIfInBounds_toArray, List.set_cons_zero, List.set_cons_succ]
  refine' stage_take (i := 9) _ rfl (by kernel_rfl) (by kernel_rfl) (by kernel_rfl) (by kernel_rfl) (fun _ _ _ h => h) ⟨HS.b1.cell 1, HS.b1.cell 2, HS.b1.cell 3, HS.b1.cell 4, HS⟩ _ (fun W hW => _) _
  rotate_left
  focus (go_simp; done)
  focus (obtain ⟨k1, k2, k3, k4, X9⟩ := hW; go_simp; first | done | (with_reducible rfl))
  simp only [Act.put, List.setIfInBounds_toArray, List.set_cons_zero, List.set_cons_succ]
  refine' stage_take (i := 10) _ rfl (by kernel_rfl) (by kernel_rfl) (by kernel_rfl) (by kernel_rfl) (fun _ _ _ h => h) ⟨HS.b1.cell 1, HS.b1.cell 2, HS.b1.cell 3, HS.b1.cell 4, HS⟩ _ (fun W hW => _) _
  rotate_left
  focus (go_simp; done)
  focus (obtain ⟨k1, k2, k3, k4, X9⟩ := hW; go_simp; first | done | (with_reducible rfl))
  simp only [Act.put, List.setIfInBounds_toArray, List.set_cons_zero, List.set_cons_succ]
  refine stage_only (i := 2) rfl (by kernel_rfl) ?_ (fun K hK => ?_)
  focus (go_simp; done)
  go_simp
  go_at_call 63
  refine (K1.out _ (HAt.out.keep HS.low).curs).mono ?_
  rintro e w1 ⟨sl, rfl, own1, b1⟩
  obtain ⟨p1, q1, rfl, _⟩ := at_of_owns own1
  replace own1 := own1.mono HS.low.size
  go_simp
  replace HS := HS.keep b1
  refine hK.out _ _ (fun _ => ⟨HS.b1.cell 1, HS.b1.cell 2, HS.b1.cell 3, HS.b1.cell 4, HS⟩) ?_
  clear hK K
  try simp only [Act.put, List.setIfInBounds_toArray, List.set_cons_zero, List.set_cons_succ]
  refine' stage_take (i := 12) _ rfl (by kernel_rfl) (by kernel_rfl) (by kernel_rfl) (by kernel_rfl) (fun _ _ _ h => h) ⟨HS.b1.cell 1, HS.b1.cell 2, HS.b1.cell 3, HS.b1.cell 4, HS⟩ _ (fun W hW => _) _
  rotate_left
  focus (go_simp; done)
  focus (obtain ⟨k1, k2, k3, k4, X9⟩ := hW; go_simp; first | done | (with_reducible rfl))
  simp only [Act.put, List.setIfInBounds_toArray, List.set_cons_zero, List.set_cons_succ]
  refine stage_only (i := 5) rfl (by kernel_rfl) ?_ (fun K hK => ?_)
  focus (go_simp; done)
  go_simp
  go_at_call 64
  refine (K2.out _ (HAt.out.keep HS.low).unders).mono ?_
  rintro e w2 ⟨sl, rfl, own2, b2⟩
  obtain ⟨p2, q2, rfl, _⟩ := at_of_owns own2
  replace own2 := own2.mono HS.low.size
  go_simp
  replace own1 := owns_below own1 b2
  replace HS := HS.keep b2
  refine hK.out _ _ (fun _ => ⟨HS.b1.cell 1, HS.b1.cell 2, HS.b1.cell 3, HS.b1.cell 4, HS⟩) ?_
  clear hK K
  try simp only [Act.put, List.setIfInBounds_toArray, List.set_cons_zero, List.set_cons_succ]
  refine stage_only (i := 8) rfl (by kernel_rfl) ?_ (fun K hK => ?_)
  focus (go_simp; done)
  go_simp
  go_at_call 65
  refine (K3.out _ (HAt.out.keep HS.low).instrs).mono ?_
  rintro e w3 ⟨sl, rfl, own3, b3⟩
  obtain ⟨p3, q3, rfl, _⟩ := at_of_owns own3
  replace own3 := own3.mono HS.low.size
  go_simp
  replace own1 := owns_below own1 b3
  replace own2 := owns_below own2 b3
  replace HS := HS.keep b3
  refine hK.out _ _ (fun _ => ⟨HS.b1.cell 1, HS.b1.cell 2, HS.b1.cell 3, HS.b1.cell 4, HS⟩) ?_
  clear hK K
  try simp only [Act.put, List.setIfInBounds_toArray, List.set_cons_zero, List.set_cons_succ]
  refine stage_only (i := 11) rfl (by kernel_rfl) ?_ (fun K hK => ?_)
  focus (go_simp; done)
  go_simp
  go_at_call 66
  refine (K4.out _ (HAt.out.keep HS.low).accts).mono ?_
  rintro e w4 ⟨sl, rfl, own4, b4⟩
  obtain ⟨p4, q4, rfl, _⟩ := at_of_owns own4
  replace own4 := own4.mono HS.low.size
  go_simp
  replace own1 := owns_below own1 b4
  replace own2 := owns_below own2 b4
  replace own3 := owns_below own3 b4
  replace HS := HS.keep b4
  refine hK.out _ _ (fun _ => ⟨HS.b1.cell 1, HS.b1.cell 2, HS.b1.cell 3, HS.b1.cell 4, HS⟩) ?_
  clear hK K
  try simp only [Act.put, List.setIfInBounds_toArray, List.set_cons_zero, List.set_cons_succ]
  refine stage_only (i := 13) rfl (by kernel_rfl) ?_ (fun K hK => ?_)
  focus (go_simp; done)
  have ck : _ = some _ := HS.b1.cell 1
  have fk := HS.b1.frozen 1
  go_simp
  clear ck fk
  replace own1 := own_box own1 HS.b1 (k := 1) (u := .slice p1 l.curs.length q1) (by decide)
  replace own2 := own_box own2 HS.b1 (k := 1) (u := .slice p1 l.curs.length q1) (by decide)
  replace own3 := own_box own3 HS.b1 (k := 1) (u := .slice p1 l.curs.length q1) (by decide)
  replace own4 := own_box own4 HS.b1 (k := 1) (u := .slice p1 l.curs.length q1) (by decide)
  replace HS := HS.set 1 (.slice p1 l.curs.length q1)
  refine hK.out _ _ (fun h => absurd h (by decide)) ?_
  clear hK K
  try simp only [Act.put, List.setIfInBounds_toArray, List.set_cons_zero, List.set_cons_succ]
  refine stage_only (i := 14) rfl (by kernel_rfl) ?_ (fun K hK => ?_)
  focus (go_simp; done)
  go_simp
  refine hK.out _ _ (fun h => absurd h (by decide)) ?_
  clear hK K
  try simp only [Act.put, List.setIfInBounds_toArray, List.set_cons_zero, List.set_cons_succ]
  refine stage_only (i := 15) rfl (by kernel_rfl) ?_ (fun K hK => ?_)
  focus (go_simp; done)
  have ck : _ = some _ := HS.b1.cell 2
  have fk := HS.b1.frozen 2
  go_simp
  clear ck fk
  replace own1 := own_box own1 HS.b1 (k := 2) (u := .slice p2 l.unders.length q2) (by decide)
  replace own2 := own_box own2 HS.b1 (k := 2) (u := .slice p2 l.unders.length q2) (by decide)
  replace own3 := own_box own3 HS.b1 (k := 2) (u := .slice p2 l.unders.length q2) (by decide)
  replace own4 := own_box own4 HS.b1 (k := 2) (u := .slice p2 l.unders.length q2) (by decide)
  replace HS := HS.set 2 (.slice p2 l.unders.length q2)
  refine hK.out _ _ (fun h => absurd h (by decide)) ?_
  clear hK K
  try simp only [Act.put, List.setIfInBounds_toArray, List.set_cons_zero, List.set_cons_succ]
  refine stage_only (i := 16) rfl (by kernel_rfl) ?_ (fun K hK => ?_)
  focus (go_simp; done)
  go_simp
  refine hK.out _ _ (fun h => absurd h (by decide)) ?_
  clear hK K
  try simp only [Act.put, List.setIfInBounds_toArray, List.set_cons_zero, List.set_cons_succ]
  refine stage_only (i := 17) rfl (by kernel_rfl) ?_ (fun K hK => ?_)
  focus (go_simp; done)
  have ck : _ = some _ := HS.b1.cell 3
  have fk := HS.b1.frozen 3
  go_simp
  clear ck fk
  replace own1 := own_box own1 HS.b1 (k := 3) (u := .slice p3 l.instrs.length q3) (by decide)
  replace own2 := own_box own2 HS.b1 (k := 3) (u := .slice p3 l.instrs.length q3) (by decide)
  replace own3 := own_box own3 HS.b1 (k := 3) (u := .slice p3 l.instrs.length q3) (by decide)
  replace own4 := own_box own4 HS.b1 (k := 3) (u := .slice p3 l.instrs.length q3) (by decide)
  replace HS := HS.set 3 (.slice p3 l.instrs.length q3)
  refine hK.out _ _ (fun h => absurd h (by decide)) ?_
  clear hK K
  try simp only [Act.put, List.setIfInBounds_toArray, List.set_cons_zero, List.set_cons_succ]
  refine stage_only (i := 18) rfl (by kernel_rfl) ?_ (fun K hK => ?_)
  focus (go_simp; done)
  go_simp
  refine hK.out _ _ (fun h => absurd h (by decide)) ?_
  clear hK K
  try simp only [Act.put, List.setIfInBounds_toArray, List.set_cons_zero, List.set_cons_succ]
  refine stage_only (i := 19) rfl (by kernel_rfl) ?_ (fun K hK => ?_)
  focus (go_simp; done)
  have ck : _ = some _ := HS.b1.cell 4
  have fk := HS.b1.frozen 4
  go_simp
  clear ck fk
  replace own1 := own_box own1 HS.b1 (k := 4) (u := .slice p4 l.accts.length q4) (by decide)
  replace own2 := own_box own2 HS.b1 (k := 4) (u := .slice p4 l.accts.length q4) (by decide)
  replace own3 := own_box own3 HS.b1 (k := 4) (u := .slice p4 l.accts.length q4) (by decide)
  replace own4 := own_box own4 HS.b1 (k := 4) (u := .slice p4 l.accts.length q4) (by decide)
  replace HS := HS.set 4 (.slice p4 l.accts.length q4)
  refine hK.out _ _ (fun h => absurd h (by decide)) ?_
  clear hK K
  try simp only [Act.put, List.setIfInBounds_toArray, List.set_cons_zero, List.set_cons_succ]
  refine stage_end (by kernel_rfl) ?_
  clear K1 K2 K3 K4 b1 b2 b3 b4
  simp only [List.setIfInBounds_toArray, List.set_cons_zero, List.set_cons_succ] at HS
  clear HS0
  have HS0 := HS
  clear HS
  generalize ((((w4.setCell ⟨w.heap.size, 1, none⟩ (.slice p1 l.curs.length q1)).setCell ⟨w.heap.size, 2, none⟩ (.slice p2 l.unders.length q2)).setCell ⟨w.heap.size, 3, none⟩ (.slice p3 l.instrs.length q3)).setCell ⟨w.heap.size, 4, none⟩ (.slice p4 l.accts.length q4)) = v5 at *
  go_upto_region 2 with fail
  replace own1 := own_drew own1
  replace own2 := own_drew own2
  replace own3 := own_drew own3
  replace own4 := own_drew own4
  refine stage_region 13 (fun W => W.cell? ⟨w.heap.size, 5, none⟩ = some (.slice s.a5 l.poss.length s.c5) ∧ W.cell? ⟨w.heap.size, 6, none⟩ = some (.slice s.a6 l.orders.length s.c6) ∧ W.cell? ⟨w.heap.size, 7, none⟩ = some (.slice s.a7 l.avail.length s.c7) ∧ W.cell? ⟨w.heap.size, 8, none⟩ = some (.slice s.a8 l.locs.length s.c8) ∧ Cp w W #[.int .i64 l.day, .slice p1 l.curs.length q1, .slice p2 l.unders.length q2, .slice p3 l.instrs.length q3, .slice p4 l.accts.length q4, .slice s.a5 l.poss.length s.c5, .slice s.a6 l.orders.length s.c6, .slice s.a7 l.avail.length s.c7, .slice s.a8 l.locs.length s.c8]) (by kernel_rfl) ?_
  have HS := HS0.drew
  refine' stage_take (i := 0) _ rfl (by kernel_rfl) (by kernel_rfl) (by kernel_rfl) (by kernel_rfl) (fun _ _ _ h => h) ⟨HS.b1.cell 5, HS.b1.cell 6, HS.b1.cell 7, HS.b1.cell 8, HS⟩ _ (fun W hW => _) _
  rotate_left
  focus (go_simp; done)
  focus (obtain ⟨k1, k2, k3, k4, X9⟩ := hW; go_simp; first | done | (with_reducible rfl))
  simp only [Act.put, List.setIfInBounds_toArray, List.set_cons_zero, List.set_cons_succ]
  refine' stage_take (i := 1) _ rfl (by kernel_rfl) (by kernel_rfl) (by kernel_rfl) (by kernel_rfl) (fun _ _ _ h => h) ⟨HS.b1.cell 5, HS.b1.cell 6, HS.b1.cell 7, HS.b1.cell 8, HS⟩ _ (fun W hW => _) _
  rotate_left
  focus (go_simp; done)
  focus (obtain ⟨k1, k2, k3, k4, X9⟩ := hW; go_simp; first | done | (with_reducible rfl))
  simp only [Act.put, List.setIfInBounds_toArray, List.set_cons_zero, List.set_cons_succ]
  refine' stage_take (i := 3) _ rfl (by kernel_rfl) (by kernel_rfl) (by kernel_rfl) (by kernel_rfl) (fun _ _ _ h => h) ⟨HS.b1.cell 5, HS.b1.cell 6, HS.b1.cell 7, HS.b1.cell 8, HS⟩ _ (fun W hW => _) _
  rotate_left
  focus (go_simp; done)
  focus (obtain ⟨k1, k2, k3, k4, X9⟩ := hW; go_simp; first | done | (with_reducible rfl))
  simp only [Act.put, List.setIfInBounds_toArray, List.set_cons_zero, List.set_cons_succ]
  refine' stage_take (i := 4) _ rfl (by kernel_rfl) (by kernel_rfl) (by kernel_rfl) (by kernel_rfl) (fun _ _ _ h => h) ⟨HS.b1.cell 5, HS.b1.cell 6, HS.b1.cell 7, HS.b1.cell 8, HS⟩ _ (fun W hW => _) _
  rotate_left
  focus (go_simp; done)
  focus (obtain ⟨k1, k2, k3, k4, X9⟩ := hW; go_simp; first | done | (with_reducible rfl))
  simp only [Act.put, List.setIfInBounds_toArray, List.set_cons_zero, List.set_cons_succ]
  refine' stage_take (i := 6) _ rfl (by kernel_rfl) (by kernel_rfl) (by kernel_rfl) (by kernel_rfl) (fun _ _ _ h => h) ⟨HS.b1.cell 5, HS.b1.cell 6, HS.b1.cell 7, HS.b1.cell 8, HS⟩ _ (fun W hW => _) _
  rotate_left
  focus (go_simp; done)
  focus (obtain ⟨k1, k2, k3, k4, X9⟩ := hW; go_simp; first | done | (with_reducible rfl))
  simp only [Act.put, List.setIfInBounds_toArray, List.set_cons_zero, List.set_cons_succ]
  refine' stage_take (i := 7) _ rfl (by kernel_rfl) (by kernel_rfl) (by kernel_rfl) (by kernel_rfl) (fun _ _ _ h => h) ⟨HS.b1.cell 5, HS.b1.cell 6, HS.b1.cell 7, HS.b1.cell 8, HS⟩ _ (fun W hW => _) _
  rotate_left
  focus (go_simp; done)
  focus (obtain ⟨k1, k2, k3, k4, X9⟩ := hW; go_simp; first | done | (with_reducible rfl))
  simp only [Act.put, List.setIfInBounds_toArray, List.set_cons_zero, List.set_cons_succ]
  refine' stage_take (i := 9) _ rfl (by kernel_rfl) (by kernel_rfl) (by kernel_rfl) (by kernel_rfl) (fun _ _ _ h => h) ⟨HS.b1.cell 5, HS.b1.cell 6, HS.b1.cell 7, HS.b1.cell 8, HS⟩ _ (fun W hW => _) _
  rotate_left
  focus (go_simp; done)
  focus (obtain ⟨k1, k2, k3, k4, X9⟩ := hW; go_simp; first | done | (with_reducible rfl))
  simp only [Act.put, List.setIfInBounds_toArray, List.set_cons_zero, List.set_cons_succ]
  refine' stage_take (i := 10) _ rfl (by kernel_rfl) (by kernel_rfl) (by kernel_rfl) (by kernel_rfl) (fun _ _ _ h => h) ⟨HS.b1.cell 5, HS.b1.cell 6, HS.b1.cell 7, HS.b1.cell 8, HS⟩ _ (fun W hW => _) _
  rotate_left
  focus (go_simp; done)
  focus (obtain ⟨k1, k2, k3, k4, X9⟩ := hW; go_simp; first | done | (with_reducible rfl))
  simp only [Act.put, List.setIfInBounds_toArray, List.set_cons_zero, List.set_cons_succ]
  refine stage_only (i := 2) rfl (by kernel_rfl) ?_ (fun K hK => ?_)
  focus (go_simp; done)
  go_simp
  go_at_call 67
  refine (K5.out _ (HAt.out.keep HS.low).poss).mono ?_
  rintro e w5 ⟨sl, rfl, own5, b5⟩
  obtain ⟨p5, q5, rfl, _⟩ := at_of_owns own5
  replace own5 := own5.mono HS.low.size
  go_simp
  replace own1 := owns_below own1 b5
  replace own2 := owns_below own2 b5
  replace own3 := owns_below own3 b5
  replace own4 := owns_below own4 b5
  replace HS := HS.keep b5
  refine hK.out _ _ (fun _ => ⟨HS.b1.cell 5, HS.b1.cell 6, HS.b1.cell 7, HS.b1.cell 8, HS⟩) ?_
  clear hK K
  try simp only [Act.put, List.setIfInBounds_toArray, List.set_cons_zero, List.set_cons_succ]
  refine' stage_take (i := 12) _ rfl (by kernel_rfl) (by kernel_rfl) (by kernel_rfl) (by kernel_rfl) (fun _ _ _ h => h) ⟨HS.b1.cell 5, HS.b1.cell 6, HS.b1.cell 7, HS.b1.cell 8, HS⟩ _ (fun W hW => _) _
  rotate_left
  focus (go_simp; done)
  focus (obtain ⟨k1, k2, k3, k4, X9⟩ := hW; go_simp; first | done | (with_reducible rfl))
  simp only [Act.put, List.setIfInBounds_toArray, List.set_cons_zero, List.set_cons_succ]
  refine stage_only (i := 5) rfl (by kernel_rfl) ?_ (fun K hK => ?_)
  focus (go_simp; done)
  go_simp
  go_at_call 68
  refine (K6.out _ (HAt.out.keep HS.low).orders).mono ?_
  rintro e w6 ⟨sl, rfl, own6, b6⟩
  obtain ⟨p6, q6, rfl, _⟩ := at_of_owns own6
  replace own6 := own6.mono HS.low.size
  go_simp
  replace own1 := owns_below own1 b6
  replace own2 := owns_below own2 b6
  replace own3 := owns_below own3 b6
  replace own4 := owns_below own4 b6
  replace own5 := owns_below own5 b6
  replace HS := HS.keep b6
  refine hK.out _ _ (fun _ => ⟨HS.b1.cell 5, HS.b1.cell 6, HS.b1.cell 7, HS.b1.cell 8, HS⟩) ?_
  clear hK K
  try simp only [Act.put, List.setIfInBounds_toArray, List.set_cons_zero, List.set_cons_succ]
  refine stage_only (i := 8) rfl (by kernel_rfl) ?_ (fun K hK => ?_)
  focus (go_simp; done)
  go_simp
  go_at_call 69
  refine (K7.out _ (HAt.out.keep HS.low).avail).mono ?_
  rintro e w7 ⟨sl, rfl, own7, b7⟩
  obtain ⟨p7, q7, rfl, _⟩ := at_of_owns own7
  replace own7 := own7.mono HS.low.size
  go_simp
  replace own1 := owns_below own1 b7
  replace own2 := owns_below own2 b7
  replace own3 := owns_below own3 b7
  replace own4 := owns_below own4 b7
  replace own5 := owns_below own5 b7
  replace own6 := owns_below own6 b7
  replace HS := HS.keep b7
  refine hK.out _ _ (fun _ => ⟨HS.b1.cell 5, HS.b1.cell 6, HS.b1.cell 7, HS.b1.cell 8, HS⟩) ?_
  clear hK K
  try simp only [Act.put, List.setIfInBounds_toArray, List.set_cons_zero, List.set_cons_succ]
  refine stage_only (i := 11) rfl (by kernel_rfl) ?_ (fun K hK => ?_)
  focus (go_simp; done)
  go_simp
  go_at_call 70
  refine (K8.out _ (HAt.out.keep HS.low).locs).mono ?_
  rintro e w8 ⟨sl, rfl, own8, b8⟩
  obtain ⟨p8, q8, rfl, _⟩ := at_of_owns own8
  replace own8 := own8.mono HS.low.size
  go_simp
  replace own1 := owns_below own1 b8
  replace own2 := owns_below own2 b8
  replace own3 := owns_below own3 b8
  replace own4 := owns_below own4 b8
  replace own5 := owns_below own5 b8
  replace own6 := owns_below own6 b8
  replace own7 := owns_below own7 b8
  replace HS := HS.keep b8
  refine hK.out _ _ (fun _ => ⟨HS.b1.cell 5, HS.b1.cell 6, HS.b1.cell 7, HS.b1.cell 8, HS⟩) ?_
  clear hK K
  try simp only [Act.put, List.setIfInBounds_toArray, List.set_cons_zero, List.set_cons_succ]
  refine stage_only (i := 13) rfl (by kernel_rfl) ?_ (fun K hK => ?_)
  focus (go_simp; done)
  have ck : _ = some _ := HS.b1.cell 5
  have fk := HS.b1.frozen 5
  go_simp
  clear ck fk
  replace own1 := own_box own1 HS.b1 (k := 5) (u := .slice p5 l.poss.length q5) (by decide)
  replace own2 := own_box own2 HS.b1 (k := 5) (u := .slice p5 l.poss.length q5) (by decide)
  replace own3 := own_box own3 HS.b1 (k := 5) (u := .slice p5 l.poss.length q5) (by decide)
  replace own4 := own_box own4 HS.b1 (k := 5) (u := .slice p5 l.poss.length q5) (by decide)
  replace own5 := own_box own5 HS.b1 (k := 5) (u := .slice p5 l.poss.length q5) (by decide)
  replace own6 := own_box own6 HS.b1 (k := 5) (u := .slice p5 l.poss.length q5) (by decide)
  replace own7 := own_box own7 HS.b1 (k := 5) (u := .slice p5 l.poss.length q5) (by decide)
  replace own8 := own_box own8 HS.b1 (k := 5) (u := .slice p5 l.poss.length q5) (by decide)
  replace HS := HS.set 5 (.slice p5 l.poss.length q5)
  refine hK.out _ _ (fun h => absurd h (by decide)) ?_
  clear hK K
  try simp only [Act.put, List.setIfInBounds_toArray, List.set_cons_zero, List.set_cons_succ]
  refine stage_only (i := 14) rfl (by kernel_rfl) ?_ (fun K hK => ?_)
  focus (go_simp; done)
  go_simp
  refine hK.out _ _ (fun h => absurd h (by decide)) ?_
  clear hK K
  try simp only [Act.put, List.setIfInBounds_toArray, List.set_cons_zero, List.set_cons_succ]
  refine stage_only (i := 15) rfl (by kernel_rfl) ?_ (fun K hK => ?_)
  focus (go_simp; done)
  have ck : _ = some _ := HS.b1.cell 6
  have fk := HS.b1.frozen 6
  go_simp
  clear ck fk
  replace own1 := own_box own1 HS.b1 (k := 6) (u := .slice p6 l.orders.length q6) (by decide)
  replace own2 := own_box own2 HS.b1 (k := 6) (u := .slice p6 l.orders.length q6) (by decide)
  replace own3 := own_box own3 HS.b1 (k := 6) (u := .slice p6 l.orders.length q6) (by decide)
  replace own4 := own_box own4 HS.b1 (k := 6) (u := .slice p6 l.orders.length q6) (by decide)
  replace own5 := own_box own5 HS.b1 (k := 6) (u := .slice p6 l.orders.length q6) (by decide)
  replace own6 := own_box own6 HS.b1 (k := 6) (u := .slice p6 l.orders.length q6) (by decide)
  replace own7 := own_box own7 HS.b1 (k := 6) (u := .slice p6 l.orders.length q6) (by decide)
  replace own8 := own_box own8 HS.b1 (k := 6) (u := .slice p6 l.orders.length q6) (by decide)
  replace HS := HS.set 6 (.slice p6 l.orders.length q6)
  refine hK.out _ _ (fun h => absurd h (by decide)) ?_
  clear hK K
  try simp only [Act.put, List.setIfInBounds_toArray, List.set_cons_zero, List.set_cons_succ]
  refine stage_only (i := 16) rfl (by kernel_rfl) ?_ (fun K hK => ?_)
  focus (go_simp; done)
  go_simp
  refine hK.out _ _ (fun h => absurd h (by decide)) ?_
  clear hK K
  try simp only [Act.put, List.setIfInBounds_toArray, List.set_cons_zero, List.set_cons_succ]
  refine stage_only (i := 17) rfl (by kernel_rfl) ?_ (fun K hK => ?_)
  focus (go_simp; done)
  have ck : _ = some _ := HS.b1.cell 7
  have fk := HS.b1.frozen 7
  go_simp
  clear ck fk
  replace own1 := own_box own1 HS.b1 (k := 7) (u := .slice p7 l.avail.length q7) (by decide)
  replace own2 := own_box own2 HS.b1 (k := 7) (u := .slice p7 l.avail.length q7) (by decide)
  replace own3 := own_box own3 HS.b1 (k := 7) (u := .slice p7 l.avail.length q7) (by decide)
  replace own4 := own_box own4 HS.b1 (k := 7) (u := .slice p7 l.avail.length q7) (by decide)
  replace own5 := own_box own5 HS.b1 (k := 7) (u := .slice p7 l.avail.length q7) (by decide)
  replace own6 := own_box own6 HS.b1 (k := 7) (u := .slice p7 l.avail.length q7) (by decide)
  replace own7 := own_box own7 HS.b1 (k := 7) (u := .slice p7 l.avail.length q7) (by decide)
  replace own8 := own_box own8 HS.b1 (k := 7) (u := .slice p7 l.avail.length q7) (by decide)
  replace HS := HS.set 7 (.slice p7 l.avail.length q7)
  refine hK.out _ _ (fun h => absurd h (by decide)) ?_
  clear hK K
  try simp only [Act.put, List.setIfInBounds_toArray, List.set_cons_zero, List.set_cons_succ]
  refine stage_only (i := 18) rfl (by kernel_rfl) ?_ (fun K hK => ?_)
  focus (go_simp; done)
  go_simp
  refine hK.out _ _ (fun h => absurd h (by decide)) ?_
  clear hK K
  try simp only [Act.put, List.setIfInBounds_toArray, List.set_cons_zero, List.set_cons_succ]
  refine stage_only (i := 19) rfl (by kernel_rfl) ?_ (fun K hK => ?_)
  focus (go_simp; done)
  have ck : _ = some _ := HS.b1.cell 8
  have fk := HS.b1.frozen 8
  go_simp
  clear ck fk
  replace own1 := own_box own1 HS.b1 (k := 8) (u := .slice p8 l.locs.length q8) (by decide)
  replace own2 := own_box own2 HS.b1 (k := 8) (u := .slice p8 l.locs.length q8) (by decide)
  replace own3 := own_box own3 HS.b1 (k := 8) (u := .slice p8 l.locs.length q8) (by decide)
  replace own4 := own_box own4 HS.b1 (k := 8) (u := .slice p8 l.locs.length q8) (by decide)
  replace own5 := own_box own5 HS.b1 (k := 8) (u := .slice p8 l.locs.length q8) (by decide)
  replace own6 := own_box own6 HS.b1 (k := 8) (u := .slice p8 l.locs.length q8) (by decide)
  replace own7 := own_box own7 HS.b1 (k := 8) (u := .slice p8 l.locs.length q8) (by decide)
  replace own8 := own_box own8 HS.b1 (k := 8) (u := .slice p8 l.locs.length q8) (by decide)
  replace HS := HS.set 8 (.slice p8 l.locs.length q8)
  refine hK.out _ _ (fun h => absurd h (by decide)) ?_
  clear hK K
  try simp only [Act.put, List.setIfInBounds_toArray, List.set_cons_zero, List.set_cons_succ]
  refine stage_end (by kernel_rfl) ?_
  clear K5 K6 K8 b5 b6 b7 b8
  simp only [List.setIfInBounds_toArray, List.set_cons_zero, List.set_cons_succ] at HS
  clear HS0
  have HM : LedMid w.heap.size ((((w8.setCell ⟨w.heap.size, 5, none⟩ (.slice p5 l.poss.length q5)).setCell ⟨w.heap.size, 6, none⟩ (.slice p6 l.orders.length q6)).setCell ⟨w.heap.size, 7, none⟩ (.slice p7 l.avail.length q7)).setCell ⟨w.heap.size, 8, none⟩ (.slice p8 l.locs.length q8)) ⟨p1, q1, p2, q2, p3, q3, p4, q4, p5, q5, p6, q6, p7, q7, p8, q8⟩ l vs 0 :=
    ⟨own1, own2, own3, own4, own5, own6, own7, own8, HAt.out.each, by simp, by simp, by simp⟩
  clear own1 own2 own3 own4 own5 own6 own7 own8
  generalize ((((w8.setCell ⟨w.heap.size, 5, none⟩ (.slice p5 l.poss.length q5)).setCell ⟨w.heap.size, 6, none⟩ (.slice p6 l.orders.length q6)).setCell ⟨w.heap.size, 7, none⟩ (.slice p7 l.avail.length q7)).setCell ⟨w.heap.size, 8, none⟩ (.slice p8 l.locs.length q8)) = v6 at *
  have e4 : v6.cell? ⟨w.heap.size, 4, none⟩ = some (.slice p4 l.accts.length q4) := HS.b1.cell 4
  have HC := Lib.hid HS
  clear HS
  go_wp2_with fail
  clear e4
  clear K7
  go_loopw [39] (fun i wr => ∃ (k : Nat) (us : List (Value × Acc)), k ≤ l.accts.length ∧ i = .int .i64 (k : Int) ∧ Cp w wr #[.int .i64 l.day, .slice p1 l.curs.length q1, .slice p2 l.unders.length q2, .slice p3 l.instrs.length q3, .slice p4 l.accts.length q4, .slice p5 l.poss.length q5, .slice p6 l.orders.length q6, .slice p7 l.avail.length q7, .slice p8 l.locs.length q8] ∧ LedMid w.heap.size wr ⟨p1, q1, p2, q2, p3, q3, p4, q4, p5, q5, p6, q6, p7, q7, p8, q8⟩ l us k ∧ Hid (us.drop k = vs.drop k)) (fun i _ => l.accts.length - (intOf i).toNat)
  case atStart => exact ⟨0, vs, by omega, rfl, HC.out, HM, rfl⟩
  case round =>
    clear HM HC
    obtain ⟨k, us, hk, rfl, HC, HM, HD⟩ := hrel
    have HC0 := Lib.hid HC
    have HM0 := Lib.hid HM
    clear HC HM
    by_cases hlt : k < l.accts.length
    · have hku : k < us.length := by rw [HM0.out.len]; exact hlt
      have hkv : k < vs.length := by rw [LedAt.len HAt.out]; exact hlt
      obtain ⟨g4, rfl⟩ := mid_addr HM0.out hlt
      have huv : us[k] = vs[k] := by
        have := HD.out
        rw [List.drop_eq_getElem_cons hku, List.drop_eq_getElem_cons hkv] at this
        injection this
      obtain ⟨ca, cc, hx, _, hcat⟩ := HAt.out.cash _ (List.getElem_mem hkv)
      have hfit := (HFit.out.accts _ (by
        have h2 : vs[k].2 ∈ vs.map (·.2) := List.mem_map_of_mem (List.getElem_mem hkv)
        rwa [HAt.out.each] at h2 : vs[k].2 ∈ l.accts)).2.2.2
      rw [← huv] at hx hcat hfit
      have HX := Lib.hid hx
      have KC := Lib.hid (fun W (h : Below w.heap.size w W) => clone_int ca cc us[k].2.cash W hfit (hcat.keep h))
      have KN := KC
      have HDN : Hid (∀ y, (us.set k y).drop (k + 1) = vs.drop (k + 1)) := fun y => by
        have h1 := HD.out
        rw [List.drop_eq_getElem_cons hku, List.drop_eq_getElem_cons hkv] at h1
        injection h1 with _ h1
        rw [List.drop_set_of_lt (by omega), h1]
      clear hx hcat hfit huv HD KC
      have hki : 0 ≤ (k : Int) ∧ (k : Int) < (l.accts.length : Int) := by omega
      go_upto_region 6 with fail
      refine stage_region 10 (fun W => W.cell? ⟨w.heap.size, 4, none⟩ = some (.slice (some ⟨g4, 0, none⟩) l.accts.length q4) ∧ W.cell? ⟨g4, k * 4 + 1, none⟩ = some (.slice ca us[k].2.cash.length cc) ∧ (Cp w W #[.int .i64 l.day, .slice p1 l.curs.length q1, .slice p2 l.unders.length q2, .slice p3 l.instrs.length q3, .slice (some ⟨g4, 0, none⟩) l.accts.length q4, .slice p5 l.poss.length q5, .slice p6 l.orders.length q6, .slice p7 l.avail.length q7, .slice p8 l.locs.length q8] ∧ LedMid w.heap.size W ⟨p1, q1, p2, q2, p3, q3, (some ⟨g4, 0, none⟩), q4, p5, q5, p6, q6, p7, q7, p8, q8⟩ l us k)) (by kernel_rfl) ?_
      have HS := And.intro HC0.out.drew (mid_drew HM0.out)
      refine' stage_take (i := 0) _ rfl (by kernel_rfl) (by kernel_rfl) (by kernel_rfl) (by kernel_rfl) (fun _ _ _ h => h) ⟨HS.1.b1.cell 4, mid_cash HS.2 hku rfl HX.out, HS⟩ _ (fun W hW => _) _
      rotate_left
      focus (go_simp; done)
      focus (obtain ⟨k1, k2, X9⟩ := hW; go_simp; first | done | (with_reducible rfl))
      simp only [Act.put, List.setIfInBounds_toArray, List.set_cons_zero, List.set_cons_succ]
      refine' stage_take (i := 1) _ rfl (by kernel_rfl) (by kernel_rfl) (by kernel_rfl) (by kernel_rfl) (fun _ _ _ h => h) ⟨HS.1.b1.cell 4, mid_cash HS.2 hku rfl HX.out, HS⟩ _ (fun W hW => _) _
      rotate_left
      focus (go_simp; done)
      focus (obtain ⟨k1, k2, X9⟩ := hW; go_simp; first | done | (with_reducible rfl))
      simp only [Act.put, List.setIfInBounds_toArray, List.set_cons_zero, List.set_cons_succ]
      refine' stage_take (i := 2) _ rfl (by kernel_rfl) (by kernel_rfl) (by kernel_rfl) (by kernel_rfl) (fun _ _ _ h => h) ⟨HS.1.b1.cell 4, mid_cash HS.2 hku rfl HX.out, HS⟩ _ (fun W hW => _) _
      rotate_left
      focus (go_simp; done)
      focus (obtain ⟨k1, k2, X9⟩ := hW; go_simp; first | done | (with_reducible rfl))
      simp only [Act.put, List.setIfInBounds_toArray, List.set_cons_zero, List.set_cons_succ]
      refine' stage_take (i := 3) _ rfl (by kernel_rfl) (by kernel_rfl) (by kernel_rfl) (by kernel_rfl) (fun _ _ _ h => h) ⟨HS.1.b1.cell 4, mid_cash HS.2 hku rfl HX.out, HS⟩ _ (fun W hW => _) _
      rotate_left
      focus (go_simp; done)
      focus (obtain ⟨k1, k2, X9⟩ := hW; go_simp; first | done | (with_reducible rfl))
      simp only [Act.put, List.setIfInBounds_toArray, List.set_cons_zero, List.set_cons_succ]
      refine' stage_take (i := 4) _ rfl (by kernel_rfl) (by kernel_rfl) (by kernel_rfl) (by kernel_rfl) (fun _ _ _ h => h) ⟨HS.1.b1.cell 4, mid_cash HS.2 hku rfl HX.out, HS⟩ _ (fun W hW => _) _
      rotate_left
      focus (go_simp; done)
      focus (obtain ⟨k1, k2, X9⟩ := hW; go_simp; first | done | (with_reducible rfl))
      simp only [Act.put, List.setIfInBounds_toArray, List.set_cons_zero, List.set_cons_succ]
      refine' stage_take (i := 5) _ rfl (by kernel_rfl) (by kernel_rfl) (by kernel_rfl) (by kernel_rfl) (fun _ _ _ h => h) ⟨HS.1.b1.cell 4, mid_cash HS.2 hku rfl HX.out, HS⟩ _ (fun W hW => _) _
      rotate_left
      focus (go_simp; done)
      focus (obtain ⟨k1, k2, X9⟩ := hW; go_simp; first | done | (with_reducible rfl))
      simp only [Act.put, List.setIfInBounds_toArray, List.set_cons_zero, List.set_cons_succ]
      refine' stage_take (i := 6) _ rfl (by kernel_rfl) (by kernel_rfl) (by kernel_rfl) (by kernel_rfl) (fun _ _ _ h => h) ⟨HS.1.b1.cell 4, mid_cash HS.2 hku rfl HX.out, HS⟩ _ (fun W hW => _) _
      rotate_left
      focus (go_simp; done)
      focus (obtain ⟨k1, k2, X9⟩ := hW; go_simp; first | done | (with_reducible rfl))
      simp only [Act.put, List.setIfInBounds_toArray, List.set_cons_zero, List.set_cons_succ]
      refine' stage_take (i := 7) _ rfl (by kernel_rfl) (by kernel_rfl) (by kernel_rfl) (by kernel_rfl) (fun _ _ _ h => h) ⟨HS.1.b1.cell 4, mid_cash HS.2 hku rfl HX.out, HS⟩ _ (fun W hW => _) _
      rotate_left
      focus (go_simp; done)
      focus (obtain ⟨k1, k2, X9⟩ := hW; go_simp; first | done | (with_reducible rfl))
      simp only [Act.put, List.setIfInBounds_toArray, List.set_cons_zero, List.set_cons_succ]
      refine' stage_take (i := 8) _ rfl (by kernel_rfl) (by kernel_rfl) (by kernel_rfl) (by kernel_rfl) (fun _ _ _ h => h) ⟨HS.1.b1.cell 4, mid_cash HS.2 hku rfl HX.out, HS⟩ _ (fun W hW => _) _
      rotate_left
      focus (go_simp; done)
      focus (obtain ⟨k1, k2, X9⟩ := hW; go_simp; first | done | (with_reducible rfl))
      simp only [Act.put, List.setIfInBounds_toArray, List.set_cons_zero, List.set_cons_succ]
      refine stage_only (i := 9) rfl (by kernel_rfl) ?_ (fun K hK => ?_)
      focus (go_simp; done)
      go_simp
      go_at_call 69
      refine (KN.out _ HS.1.low).mono ?_
      rintro e w9 ⟨sl, rfl, own9, b9⟩
      obtain ⟨pn, qn, rfl, _⟩ := at_of_owns own9
      have HN := Lib.hid (HS.2.next hku b9 HS.1.low.size own9)
      have HC := Lib.hid (HS.1.keep b9)
      go_simp
      replace HS := And.intro (HS.1.keep b9) (HS.2.below b9)
      refine hK.out _ _ (fun _ => ⟨HS.1.b1.cell 4, mid_cash HS.2 hku rfl HX.out, HS⟩) ?_
      clear hK K
      try simp only [Act.put, List.setIfInBounds_toArray, List.set_cons_zero, List.set_cons_succ]
      refine stage_only (i := 10) rfl (by kernel_rfl) ?_ (fun K hK => ?_)
      focus (go_simp; done)
      go_simp
      refine hK.out _ _ (fun h => absurd h (by decide)) ?_
      clear hK K
      try simp only [Act.put, List.setIfInBounds_toArray, List.set_cons_zero, List.set_cons_succ]
      refine stage_only (i := 11) rfl (by kernel_rfl) ?_ (fun K hK => ?_)
      focus (go_simp; done)
      go_simp
      refine hK.out _ _ (fun h => absurd h (by decide)) ?_
      clear hK K
      try simp only [Act.put, List.setIfInBounds_toArray, List.set_cons_zero, List.set_cons_succ]
      refine stage_only (i := 12) rfl (by kernel_rfl) ?_ (fun K hK => ?_)
      focus (go_simp; done)
      obtain ⟨g, hg1, hg2, hg3, ck, fk, HM⟩ := HN.out
      obtain rfl : g4 = g := by simpa using hg1
      rw [HX.out] at ck
      have HC1 := cp_row HC.out HS.2.accts (by omega) (k := k * 4 + 1) (u := .slice pn us[k].2.cash.length qn)
      go_simp
      clear ck fk
      refine hK.out _ _ (fun h => absurd h (by decide)) ?_
      clear hK K
      try simp only [Act.put, List.setIfInBounds_toArray, List.set_cons_zero, List.set_cons_succ]
      refine stage_end (by kernel_rfl) ?_
      have HC2 := Lib.hid HC1
      have HM2 := Lib.hid HM
      clear HC1 HM HN HC HS own9 b9 hg1
      go_wp2_with fail
      go_roundw
      case rel => exact ⟨k + 1, _, by omega, by go_num, HC2.out, HM2.out, HDN.out _⟩
      case measure => simp [intOf]; omega
    · have HM : LedOwn w.heap.size wr ⟨p1, q1, p2, q2, p3, q3, p4, q4, p5, q5, p6, q6, p7, q7, p8, q8⟩ l us := HM0.out.own (by have := HM0.out.len; omega)
      have HO := Lib.hid HM
      have HB := Lib.hid HC0.out.b1
      have HB2 := Lib.hid HC0.out.b2
      have low := HC0.out.low
      clear HM0 HC0 HD HM
      have c0 : wr.cell? ⟨w.heap.size, 0, none⟩ = some (.int .i64 l.day) := HB.out.cell 0
      have c1 : wr.cell? ⟨w.heap.size, 1, none⟩ = some (.slice p1 l.curs.length q1) := HB.out.cell 1
      have c2 : wr.cell? ⟨w.heap.size, 2, none⟩ = some (.slice p2 l.unders.length q2) := HB.out.cell 2
      have c3 : wr.cell? ⟨w.heap.size, 3, none⟩ = some (.slice p3 l.instrs.length q3) := HB.out.cell 3
      have c4 : wr.cell? ⟨w.heap.size, 4, none⟩ = some (.slice p4 l.accts.length q4) := HB.out.cell 4
      have c5 : wr.cell? ⟨w.heap.size, 5, none⟩ = some (.slice p5 l.poss.length q5) := HB.out.cell 5
      have c6 : wr.cell? ⟨w.heap.size, 6, none⟩ = some (.slice p6 l.orders.length q6) := HB.out.cell 6
      have c7 : wr.cell? ⟨w.heap.size, 7, none⟩ = some (.slice p7 l.avail.length q7) := HB.out.cell 7
      have c8 : wr.cell? ⟨w.heap.size, 8, none⟩ = some (.slice p8 l.locs.length q8) := HB.out.cell 8
      have f0 : wr.cell? ⟨w.heap.size + 1, 0, none⟩ = some (.int .i64 0) := HB2.out.cell 0
      have r0 : wr.frozen? ⟨w.heap.size + 1, 0, none⟩ = false := HB2.out.frozen 0
      have f1 : wr.cell? ⟨w.heap.size + 1, 1, none⟩ = some (.slice none 0 0) := HB2.out.cell 1
      have r1 : wr.frozen? ⟨w.heap.size + 1, 1, none⟩ = false := HB2.out.frozen 1
      have f2 : wr.cell? ⟨w.heap.size + 1, 2, none⟩ = some (.slice none 0 0) := HB2.out.cell 2
      have r2 : wr.frozen? ⟨w.heap.size + 1, 2, none⟩ = false := HB2.out.frozen 2
      have f3 : wr.cell? ⟨w.heap.size + 1, 3, none⟩ = some (.slice none 0 0) := HB2.out.cell 3
      have r3 : wr.frozen? ⟨w.heap.size + 1, 3, none⟩ = false := HB2.out.frozen 3
      have f4 : wr.cell? ⟨w.heap.size + 1, 4, none⟩ = some (.slice none 0 0) := HB2.out.cell 4
      have r4 : wr.frozen? ⟨w.heap.size + 1, 4, none⟩ = false := HB2.out.frozen 4
      have f5 : wr.cell? ⟨w.heap.size + 1, 5, none⟩ = some (.slice none 0 0) := HB2.out.cell 5
      have r5 : wr.frozen? ⟨w.heap.size + 1, 5, none⟩ = false := HB2.out.frozen 5
      have f6 : wr.cell? ⟨w.heap.size + 1, 6, none⟩ = some (.slice none 0 0) := HB2.out.cell 6
      have r6 : wr.frozen? ⟨w.heap.size + 1, 6, none⟩ = false := HB2.out.frozen 6
      have f7 : wr.cell? ⟨w.heap.size + 1, 7, none⟩ = some (.slice none 0 0) := HB2.out.cell 7
      have r7 : wr.frozen? ⟨w.heap.size + 1, 7, none⟩ = false := HB2.out.frozen 7
      have f8 : wr.cell? ⟨w.heap.size + 1, 8, none⟩ = some (.slice none 0 0) := HB2.out.cell 8
      have r8 : wr.frozen? ⟨w.heap.size + 1, 8, none⟩ = false := HB2.out.frozen 8
      go_wp2_with fail
      clear c0 c1 c2 c3 c4 c5 c6 c7 c8 f0 f1 f2 f3 f4 f5 f6 f7 f8 r0 r1 r2 r3 r4 r5 r6 r7 r8
      exact bodyPost_ret (results_cell (by rfl) _ _ (fill_box HB2.out _ _ _ _ _ _ _ _ _) Tryz.underlying31 rfl (by kernel_rfl) rfl) rfl ⟨⟨p1, q1, p2, q2, p3, q3, p4, q4, p5, q5, p6, q6, p7, q7, p8, q8⟩, us, rfl, fill_own HO.out HB2.out _ _ _ _ _ _ _ _ _, fill_low low (by omega) _ _ _ _ _ _ _ _ _⟩
end Go.Proofs.YtmimhimlgbklpaaGreatDoor.LedW
