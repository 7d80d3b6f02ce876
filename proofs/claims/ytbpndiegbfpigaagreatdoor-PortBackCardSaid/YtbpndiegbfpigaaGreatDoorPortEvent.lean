/- The walk of port.Event. -/
import Derived.Test.YtbpndiegbfpigaaGreatDoorPortEvWalks
import Derived.Test.YtbpndiegbfpigaaGreatDoorPortRFields
import Derived.Test.YtbpndiegbfpigaaGreatDoorBaseRow
import Derived.Lib.SlicesS
namespace Go.Proofs.YtbpndiegbfpigaaGreatDoor.PortW
open Go.RowKit Go.Proofs.YtbpndiegbfpigaaGreatDoor.Bas Go.Proofs.YtbpndiegbfpigaaGreatDoor.DecM Go.Proofs.YtbpndiegbfpigaaGreatDoor.FixpM Go.Proofs.YtbpndiegbfpigaaGreatDoor.FixpW Go.Proofs.YtbpndiegbfpigaaGreatDoor.DecW Go.Proofs.YtbpndiegbfpigaaGreatDoor.FldW Go.Proofs.YtbpndiegbfpigaaGreatDoor.PortM

theorem idx_kinds (s : List UInt8) : Lib.idxOfS (kindsL.map fun b => (⟨#[b]⟩ : ByteArray)) ⟨s.toArray⟩ = (kindF s : Int) - 1 := by
  match s with
  | [] => rfl
  | b :: c :: l => simp [Lib.idxOfS, Lib.idxFromS, kindsL, kindF]
  | [b] =>
    by_cases hb : b ∈ kindsL
    · have e : ∀ b ∈ kindsL, Lib.idxOfS (kindsL.map fun b => (⟨#[b]⟩ : ByteArray)) ⟨[b].toArray⟩ = (kindF [b] : Int) - 1 := by decide
      exact e b hb
    · have hk : kindF [b] = 0 := by unfold kindF; simp only [if_neg hb]
      rw [hk]
      simp [kindsL] at hb
      obtain ⟨h1, h2, h3, h4, h5, h6, h7, h8, h9, h10, h11, h12, h13, h14, h15, h16⟩ := hb
      simp [Lib.idxOfS, Lib.idxFromS, kindsL, Ne.symm h1, Ne.symm h2, Ne.symm h3, Ne.symm h4, Ne.symm h5, Ne.symm h6, Ne.symm h7, Ne.symm h8, Ne.symm h9, Ne.symm h10, Ne.symm h11, Ne.symm h12, Ne.symm h13, Ne.symm h14, Ne.symm h15, Ne.symm h16]


theorem index_calls (s : List UInt8) (a : Option Addr) (c : Nat) (W : World) (h : At W a (strs kindsL)) :
    Calls Tryz.prog 20 #[.slice a 16 c, .string ⟨s.toArray⟩] W fun e w' => e = .returned (.int .i64 ((kindF s : Int) - 1)) ∧ W = w' := by
  obtain ⟨b, off, rfl, _⟩ := h 0 (.string ⟨#[68]⟩) rfl
  have C := Tryz.slices_Index_string b off 16 c (kindsL.map fun b => (⟨#[b]⟩ : ByteArray)) ⟨s.toArray⟩ W (by decide) (by decide) (fun j hj => by
    have hj' : j < kindsL.length := by simpa using hj
    obtain ⟨_, _, e, h1⟩ := h j (.string ⟨#[kindsL[j]]⟩) (by unfold strs; rw [List.getElem?_map, List.getElem?_eq_getElem hj']; rfl)
    cases e
    rw [h1, List.getD, List.getElem?_map, List.getElem?_eq_getElem hj']
    rfl)
  refine C.mono ?_
  rintro e w' ⟨rfl, rfl⟩
  refine ⟨?_, rfl⟩
  rw [List.take_of_length_le (by decide), idx_kinds]
theorem at_first {A B : World} {n : Nat} {a : Option Addr} {cs : List Value} (h : At A a cs) (hb : Below (A.drewN n).heap.size (A.drewN n) B) : At B a cs := (show At (A.drewN n) a cs from h).keep hb
theorem cell_first {A B : World} {n : Nat} {p : Addr} {v : Value} (h : A.cell? p = some v) (hb : Below (A.drewN n).heap.size (A.drewN n) B) : B.cell? p = some v := (hb.cell (World.block_lt_of_cell? A _ h)).trans h
/-- what stays while an event is read -/
structure HoldE (w W : World) (b off : Nat) (fs : List Fld) (s : List UInt8) : Prop where
  bx : Box W w.heap.size 23 (Ev.cells Ev.zero)
  at_ : At W (some ⟨b, off, none⟩) (fcells fs)
  c1 : W.cell? ⟨b, off + 1, none⟩ = some (.string ⟨s.toArray⟩)
  low : Below w.heap.size w W
theorem HoldE.keep {w W W' : World} {b off : Nat} {fs : List Fld} {s : List UInt8} (h : HoldE w W b off fs s) (hb : Below W.heap.size W W') : HoldE w W' b off fs s :=
  ⟨h.bx.keep hb, h.at_.keep hb, (hb.cell (World.block_lt_of_cell? W _ h.c1)).trans h.c1, h.low.trans (hb.mono h.low.size)⟩
theorem HoldE.alloc {w W : World} {b off : Nat} {fs : List Fld} {s : List UInt8} (h : HoldE w W b off fs s) (o : Obj) : HoldE w (W.alloc o) b off fs s := h.keep ((Below.refl _ _).alloc (Nat.le_refl _) _)
theorem HoldE.drew {w W : World} {b off : Nat} {fs : List Fld} {s : List UInt8} (h : HoldE w W b off fs s) : HoldE w W.drew b off fs s := ⟨h.bx, h.at_, h.c1, h.low.drew⟩
theorem HoldE.drewN {w W : World} {b off : Nat} {fs : List Fld} {s : List UInt8} (h : HoldE w W b off fs s) (n : Nat) : HoldE w (W.drewN n) b off fs s := ⟨h.bx, h.at_, h.c1, below_drewN h.low n⟩
theorem HoldE.row {w W : World} {b off : Nat} {fs : List Fld} {s : List UInt8} {g : Nat} (h : HoldE w W b off fs s) (h1 : w.heap.size < g) (h2 : b ≠ g) (C : Array Value) : HoldE w (W.setRow g C) b off fs s := by
  have hc : ∀ p : Addr, p.block ≠ g → (W.setRow g C).cell? p = W.cell? p := fun p hp => by unfold World.cell?; rw [setRow_other W g _ C hp]
  refine ⟨h.bx.farRow (by omega) C, ?_, (hc _ h2).trans h.c1, below_setRow h.low (by omega) C⟩
  intro j u hj
  obtain ⟨b', o', e, hh⟩ := h.at_ j u hj
  cases e
  exact ⟨b, off, rfl, (hc _ h2).trans hh⟩
theorem HoldE.set {w W : World} {b off : Nat} {fs : List Fld} {s : List UInt8} {g : Nat} (h : HoldE w W b off fs s) (h1 : w.heap.size < g) (h2 : b ≠ g) (i : Nat) (u : Value) : HoldE w (W.setCell ⟨g, i, none⟩ u) b off fs s := by
  have hc : ∀ p : Addr, p.block ≠ g → (W.setCell ⟨g, i, none⟩ u).cell? p = W.cell? p := fun p hp => by unfold World.cell?; rw [Below.heap_setCell W ⟨g, i, none⟩ u _ hp]
  refine ⟨h.bx.far (p := ⟨g, i, none⟩) (by simp; omega) u, ?_, (hc _ h2).trans h.c1, h.low.setCell (p := ⟨g, i, none⟩) (by simp; omega) u⟩
  intro j u hj
  obtain ⟨b', o', e, hh⟩ := h.at_ j u hj
  cases e
  exact ⟨b, off, rfl, (hc _ h2).trans hh⟩
theorem HoldE.set12 {w W : World} {b off : Nat} {fs : List Fld} {s : List UInt8} {g : Nat} (h : HoldE w W b off fs s) (h1 : w.heap.size < g) (h2 : b ≠ g) (x : Ev) : HoldE w ((((((((((((W.setCell ⟨g, 0, none⟩ (.int .i64 x.kind)).setCell ⟨g, 1, none⟩ (.int .i64 x.acct)).setCell ⟨g, 2, none⟩ (.int .i64 x.id)).setCell ⟨g, 3, none⟩ (.int .i64 x.new)).setCell ⟨g, 4, none⟩ (.int .i64 x.instr)).setCell ⟨g, 5, none⟩ (.int .i64 x.under)).setCell ⟨g, 6, none⟩ (.int .i64 x.cur)).setCell ⟨g, 7, none⟩ (.int .i64 x.qty)).setCell ⟨g, 8, none⟩ (.int .i64 x.price)).setCell ⟨g, 9, none⟩ (.int .i64 x.amount)).setCell ⟨g, 10, none⟩ (.bool x.call)).setCell ⟨g, 11, none⟩ (.string ⟨x.name.toArray⟩)) b off fs s := ((((((((((((h.set h1 h2 0 _).set h1 h2 1 _).set h1 h2 2 _).set h1 h2 3 _).set h1 h2 4 _).set h1 h2 5 _).set h1 h2 6 _).set h1 h2 7 _).set h1 h2 8 _).set h1 h2 9 _).set h1 h2 10 _).set h1 h2 11 _)
theorem cells_kind (v x : Ev) : (Ev.cells v).setIfInBounds 0 (.int .i64 x.kind) = Ev.cells { v with kind := x.kind } := rfl
theorem cells_acct (v x : Ev) : (Ev.cells v).setIfInBounds 1 (.int .i64 x.acct) = Ev.cells { v with acct := x.acct } := rfl
theorem cells_id (v x : Ev) : (Ev.cells v).setIfInBounds 2 (.int .i64 x.id) = Ev.cells { v with id := x.id } := rfl
theorem cells_new (v x : Ev) : (Ev.cells v).setIfInBounds 3 (.int .i64 x.new) = Ev.cells { v with new := x.new } := rfl
theorem cells_instr (v x : Ev) : (Ev.cells v).setIfInBounds 4 (.int .i64 x.instr) = Ev.cells { v with instr := x.instr } := rfl
theorem cells_under (v x : Ev) : (Ev.cells v).setIfInBounds 5 (.int .i64 x.under) = Ev.cells { v with under := x.under } := rfl
theorem cells_cur (v x : Ev) : (Ev.cells v).setIfInBounds 6 (.int .i64 x.cur) = Ev.cells { v with cur := x.cur } := rfl
theorem cells_qty (v x : Ev) : (Ev.cells v).setIfInBounds 7 (.int .i64 x.qty) = Ev.cells { v with qty := x.qty } := rfl
theorem cells_price (v x : Ev) : (Ev.cells v).setIfInBounds 8 (.int .i64 x.price) = Ev.cells { v with price := x.price } := rfl
theorem cells_amount (v x : Ev) : (Ev.cells v).setIfInBounds 9 (.int .i64 x.amount) = Ev.cells { v with amount := x.amount } := rfl
theorem cells_call (v x : Ev) : (Ev.cells v).setIfInBounds 10 (.bool x.call) = Ev.cells { v with call := x.call } := rfl
theorem cells_name (v x : Ev) : (Ev.cells v).setIfInBounds 11 (.string ⟨x.name.toArray⟩) = Ev.cells { v with name := x.name } := rfl
theorem box_set12 {W : World} {g : Nat} {t : TypeId} {v : Ev} (h : Box W g t (Ev.cells v)) (x : Ev) : Box ((((((((((((W.setCell ⟨g, 0, none⟩ (.int .i64 x.kind)).setCell ⟨g, 1, none⟩ (.int .i64 x.acct)).setCell ⟨g, 2, none⟩ (.int .i64 x.id)).setCell ⟨g, 3, none⟩ (.int .i64 x.new)).setCell ⟨g, 4, none⟩ (.int .i64 x.instr)).setCell ⟨g, 5, none⟩ (.int .i64 x.under)).setCell ⟨g, 6, none⟩ (.int .i64 x.cur)).setCell ⟨g, 7, none⟩ (.int .i64 x.qty)).setCell ⟨g, 8, none⟩ (.int .i64 x.price)).setCell ⟨g, 9, none⟩ (.int .i64 x.amount)).setCell ⟨g, 10, none⟩ (.bool x.call)).setCell ⟨g, 11, none⟩ (.string ⟨x.name.toArray⟩)) g t (Ev.cells x) := by
  have h0 := Box.set h 0 (.int .i64 x.kind)
  rw [cells_kind] at h0
  have h1 := Box.set h0 1 (.int .i64 x.acct)
  rw [cells_acct] at h1
  have h2 := Box.set h1 2 (.int .i64 x.id)
  rw [cells_id] at h2
  have h3 := Box.set h2 3 (.int .i64 x.new)
  rw [cells_new] at h3
  have h4 := Box.set h3 4 (.int .i64 x.instr)
  rw [cells_instr] at h4
  have h5 := Box.set h4 5 (.int .i64 x.under)
  rw [cells_under] at h5
  have h6 := Box.set h5 6 (.int .i64 x.cur)
  rw [cells_cur] at h6
  have h7 := Box.set h6 7 (.int .i64 x.qty)
  rw [cells_qty] at h7
  have h8 := Box.set h7 8 (.int .i64 x.price)
  rw [cells_price] at h8
  have h9 := Box.set h8 9 (.int .i64 x.amount)
  rw [cells_amount] at h9
  have h10 := Box.set h9 10 (.bool x.call)
  rw [cells_call] at h10
  have h11 := Box.set h10 11 (.string ⟨x.name.toArray⟩)
  rw [cells_name] at h11
  exact h11
/-- between two fields -/
def LoopE (w : World) (b off : Nat) (fs : List Fld) (s : List UInt8) (g1 : Nat) (a7 : Option Addr) (ts : List Int) (c : Ev × Int) (i : Value) (wr : World) : Prop :=
  ∃ (k : Nat) (v : Ev), k ≤ ts.length ∧ i = .int .i64 k ∧ HoldE w wr b off fs s ∧ Box wr g1 23 (Ev.cells v) ∧ At wr a7 (i64s ts) ∧ Hid (getAll v (ts.drop k) (fs.tail.drop k) = c)
theorem _root_.Go.Proofs.YtbpndiegbfpigaaGreatDoor.Bas.At.setCell {w : World} {a : Option Addr} {cs : List Value} (h : At w a cs) {p : Addr} (hne : ∀ b off s, a = some ⟨b, off, s⟩ → b ≠ p.block) (u : Value) : At (w.setCell p u) a cs := by
  intro j v hj
  obtain ⟨b, off, rfl, hc⟩ := h j v hj
  refine ⟨b, off, rfl, ?_⟩
  unfold World.cell? at hc ⊢
  rw [Below.heap_setCell w p u _ (hne b off none rfl)]
  exact hc
theorem LoopE.next {w W : World} {b off : Nat} {fs : List Fld} {s : List UInt8} {g1 : Nat} {a7 : Option Addr} {ts : List Int} {c : Ev × Int} {v v' : Ev} {k i : Nat} {u : Value} (hk : k < ts.length) (H : HoldE w W b off fs s) (X : Box W g1 23 (Ev.cells v)) (hat : At W a7 (i64s ts))
    (hg : w.heap.size < g1) (hb : b ≠ g1) (h7 : ∀ b off s, a7 = some ⟨b, off, s⟩ → b ≠ g1) (hc : (Ev.cells v).setIfInBounds i u = Ev.cells v') (hG : getAll v' (ts.drop (k + 1)) (fs.tail.drop (k + 1)) = c) : LoopE w b off fs s g1 a7 ts c (.int .i64 ((k : Int) + 1)) (W.setCell ⟨g1, i, none⟩ u) :=
  ⟨k + 1, v', hk, by go_num, H.set hg hb i u, by rw [← hc]; exact Box.set X i u, hat.setCell h7 u, hG⟩
theorem LoopE.alloc {w W : World} {b off : Nat} {fs : List Fld} {s : List UInt8} {g1 : Nat} {a7 : Option Addr} {ts : List Int} {c : Ev × Int} {i : Value} (h : LoopE w b off fs s g1 a7 ts c i W) (o : Obj) : LoopE w b off fs s g1 a7 ts c i (W.alloc o) := by
  obtain ⟨k, v, h1, h2, h3, h4, h5, h6⟩ := h
  exact ⟨k, v, h1, h2, h3.alloc o, h4.alloc o, h5.keep ((Below.refl _ _).alloc (Nat.le_refl _) _), h6⟩
theorem ret_ev {c : Ev × Int} {v : Ev} {e : Int} {a b : Value} (h : c = (v, e)) (ha : a = .agg (Ev.cells v)) (hb : b = .int .i64 e) : Ending.returned (.tuple #[a, b]) = .returned (.tuple #[.agg (Ev.cells c.1), .int .i64 c.2]) := by rw [h, ha, hb]
set_option maxHeartbeats 4000000 in
set_option maxRecDepth 20000 in
theorem event_calls (fs : List Fld) (a : Option Addr) (cap : Nat) (w : World) (hl : fs.length ≤ 140737488351232) (hok : ∀ f ∈ fs, f.2.length ≤ 140737488351232) (hat : At w a (fcells fs)) :
    Calls Tryz.prog 8 #[.slice a fs.length cap] w fun e w' => e = .returned (.tuple #[.agg (Ev.cells (eventR fs).1), .int .i64 (eventR fs).2]) ∧ Below w.heap.size w w' := by
  have HA := Lib.hid (hat.keep ((Below.refl _ w).alloc (Nat.le_refl _) (.cells #[.int .i64 0, .int .i64 0, .int .i64 0, .int .i64 0, .int .i64 0, .int .i64 0, .int .i64 0, .int .i64 0, .int .i64 0, .int .i64 0, .bool false, .string ⟨#[]⟩] 23)))
  have HW := Lib.hid hat
  have HO := Lib.hid hok
  clear hat hok
  go_enter Tryz.func8, Tryz.ntmps8
  have X0 : Box (w.alloc (.cells #[.int .i64 0, .int .i64 0, .int .i64 0, .int .i64 0, .int .i64 0, .int .i64 0, .int .i64 0, .int .i64 0, .int .i64 0, .int .i64 0, .bool false, .string ⟨#[]⟩] 23)) w.heap.size 23 #[.int .i64 0, .int .i64 0, .int .i64 0, .int .i64 0, .int .i64 0, .int .i64 0, .int .i64 0, .int .i64 0, .int .i64 0, .int .i64 0, .bool false, .string ⟨#[]⟩] := Box.new w _ _
  have B0 := (Below.refl w.heap.size w).alloc (Nat.le_refl _) (.cells #[.int .i64 0, .int .i64 0, .int .i64 0, .int .i64 0, .int .i64 0, .int .i64 0, .int .i64 0, .int .i64 0, .int .i64 0, .int .i64 0, .bool false, .string ⟨#[]⟩] 23)
  cases fs with
  | nil =>
    simp only [List.length_nil]
    go_upto_region 1 with fail
    generalize w.alloc (.cells #[.int .i64 0, .int .i64 0, .int .i64 0, .int .i64 0, .int .i64 0, .int .i64 0, .int .i64 0, .int .i64 0, .int .i64 0, .int .i64 0, .bool false, .string ⟨#[]⟩] 23) = w0 at *
    have X0' : Box w0 w.heap.size 23 (Ev.cells Ev.zero) := X0
    go_wp2_with (first | ((with_reducible refine wpList_store_box rfl 23 (.tmp 2) (.tmp 21) rfl (Ev.cells Ev.zero) X0' ?_ ?_ ?_ ?_ ?_ ?_); (· exact size12 _); (· rfl); (· exact ev_one _); (· rfl); (· rfl); rw [Box.rowSelf X0']))
    exact bodyPost_ret (results_cell_slot (by rfl) _ _ X0' Tryz.underlying23 rfl (size12 _) rfl) rfl ⟨ret_ev rfl rfl rfl, B0⟩
  | cons f r =>
    obtain ⟨f1, f2⟩ := f
    have hr1 : r.length ≤ 140737488351232 := by simp at hl; omega
    have hn0 : ¬ ((((f1, f2) :: r).length : Int) = 0) := by simp; omega
    have hc0 := fld_at HA.out 0 (by simp)
    obtain ⟨b, off, rfl, c0, c1⟩ := hc0
    have hbw : b < w.heap.size := HW.out.lt b off none rfl (by unfold fcells fcell; simp)
    clear HW
    simp only [List.getElem_cons_zero, Nat.zero_mul, Nat.add_zero] at c0 c1
    obtain ⟨n, hn⟩ : ∃ n, n = ((f1, f2) :: r).length := ⟨_, rfl⟩
    have hnr : (n : Int) = r.length + 1 := by rw [hn]; simp
    rw [← hn] at hl hn0 ⊢
    have HN := Lib.hid hn
    clear hn
    go_upto_region 1 with fail
    have hz0 := X0.lt
    generalize w.alloc (.cells #[.int .i64 0, .int .i64 0, .int .i64 0, .int .i64 0, .int .i64 0, .int .i64 0, .int .i64 0, .int .i64 0, .int .i64 0, .int .i64 0, .bool false, .string ⟨#[]⟩] 23) = w0 at *
    have X0' : Box w0 w.heap.size 23 (Ev.cells Ev.zero) := X0
    clear X0
    have HNR := Lib.hid hnr
    clear hnr
    by_cases h35 : f1 = 35
    · subst h35
      have hwk : IntKind.i64.wrap (kindF f2 : Int) = (kindF f2 : Int) := by
        have := kindF_le f2
        exact IntWalk.i64_in _ (by omega)
      go_upto_region 3 with fail
      have hb0 := World.block_lt_of_cell? w0 _ c1
      have H0 : HoldE w w0 b off ((35, f2) :: r) f2 := ⟨X0', HA.out, c1, B0⟩
      go_cut [4] from 11 (fun p wx => ∃ g1, p = .pointer (some ⟨g1, 0, none⟩) ∧ w.heap.size < g1 ∧ HoldE w wx b off ((35, f2) :: r) f2 ∧ Box wx g1 23 (Ev.cells (Ev.ofKind (kindF f2))))
      case first =>
        go_region_with (first
          | (go_at_call 15; refine (types_calls _).mono ?_; rintro e w5 ⟨aT, cT, rfl, atT, bb⟩; have H5 : HoldE w w5 b off ((35, f2) :: r) f2 := (by first | exact H0.keep bb | exact H0.drew.keep bb | exact (H0.drewN _).keep bb | exact (H0.alloc _).keep bb | exact (H0.alloc _).drew.keep bb | exact ((H0.alloc _).drewN _).keep bb); have c5 := H5.c1; have hb5 := World.block_lt_of_cell? w5 _ c5; try (have Y5 : Box w5 w0.heap.size 23 (Ev.cells Ev.zero) := (by first | exact (Box.new w0 _ _).keep bb | exact Box.keep (w := (w0.alloc _).drew) (Box.new w0 _ _) bb | exact Box.keep (w := (w0.alloc _).drewN _) (Box.new w0 _ _) bb); obtain ⟨y0, y1, y2, y3, y4, y5, y6, y7, y8, y9, y10, y11⟩ := Y5.cells12; have z0 := Y5.frozen 0; have z1 := Y5.frozen 1; have z2 := Y5.frozen 2; have z3 := Y5.frozen 3; have z4 := Y5.frozen 4; have z5 := Y5.frozen 5; have z6 := Y5.frozen 6; have z7 := Y5.frozen 7; have z8 := Y5.frozen 8; have z9 := Y5.frozen 9; have z10 := Y5.frozen 10; have z11 := Y5.frozen 11))
          | (go_at_call 20; refine (index_calls f2 aT cT _ (by first | exact atT | exact atT.drewN _ | exact atT.keep ((Below.refl _ _).alloc (Nat.le_refl _) _))).mono ?_; rintro e w6 ⟨rfl, rfl⟩))
        all_goals
          go_wp2_with fail
          go_meet
          first
            | exact ⟨_, rfl, H5.bx.lt, H5.alloc _, Box.new w5 _ _⟩
            | exact ⟨_, rfl, hz0, H5.set12 hz0 (by omega) (Ev.ofKind (kindF f2)), box_set12 Y5 (Ev.ofKind (kindF f2))⟩
      case rest =>
        obtain ⟨g1, rfl, hg1, H1, X1⟩ := hcut
        have k0 : wc.cell? ⟨g1, 0, none⟩ = some (.int .i64 (kindF f2 : Int)) := X1.cell 0
        obtain ⟨c, hc⟩ : ∃ c, c = eventR ((35, f2) :: r) := ⟨_, rfl⟩
        have hE0 := Lib.hid (fun h => hc.trans (@eventR_not (35, f2) r h))
        have hE1 := Lib.hid (fun k h h0 h1 => hc.trans (@eventR_of f2 r k h h0 h1))
        have HC := Lib.hid hc.symm
        clear hc
        have hTm := Lib.hid (fun t h h1 h2 => @tag_num (kindF f2 : Int) t h h1 h2)
        have hO := Lib.hid (fun f (h : f ∈ r) => HO.out f (List.mem_cons_of_mem _ h))
        simp only [ne_eq] at hE0
        have hl6 := tagsF_len (kindF f2 : Int)
        have HTg := Lib.hid (fun W => tags_calls (kindF f2 : Int) W)
        generalize hK : kindF f2 = K at *
        have HK := Lib.hid hK
        generalize hts : tagsF (K : Int) = ts at *
        have HTS := Lib.hid hts
        clear hK hts HO hb0 c1 hz0 X0' HA B0 hwk
        go_upto_region 5 with (go_at_call 16; refine (HTg.out _).mono ?_; rintro e w7 ⟨a7, c7, rfl, at7, fr7, b7⟩)
        have H7 := H1.keep b7
        have X7 := X1.keep b7
        have k7 := (b7.cell (World.block_lt_of_cell? wc _ k0)).trans k0
        have hnr := HNR.out
        have h7 : ∀ b off s, a7 = some ⟨b, off, s⟩ → b ≠ g1 := fun b off s e => by have := fr7 b off s e; have := X1.lt; omega
        have hbg : b ≠ g1 := by omega
        have HN7 := Lib.hid h7
        clear H1 X1 k0 b7 fr7 HTg h7
        have hw : IntKind.i64.wrap (1 + (ts.length : Int)) = 1 + (ts.length : Int) := IntWalk.i64_in _ (by omega)
        by_cases hk0 : K = 0
        · subst hk0
          have HR := Lib.hid (hE0.out (.inr (.inl rfl)))
          clear hE0 hE1 hTm hnr
          go_wp2_with (first | ((with_reducible refine wpList_store_box rfl 23 (.tmp 2) (.tmp 44) rfl (Ev.cells Ev.zero) H7.bx ?_ ?_ ?_ ?_ ?_ ?_); (· exact size12 _); (· rfl); (· exact ev_one _); (· rfl); (· rfl); rw [Box.rowSelf H7.bx]))
          exact bodyPost_ret (results_cell_slot (by rfl) _ _ H7.bx Tryz.underlying23 rfl (size12 _) rfl) rfl ⟨ret_ev (HC.out.trans HR.out) rfl rfl, H7.low⟩
        · have hk0' : ¬ ((K : Int) = 0) := by omega
          by_cases hlen : r.length = ts.length
          · have HR := Lib.hid (hE1.out K rfl hk0 (by rw [HTS.out]; exact hlen))
            have hne : ((n : Int) != 1 + (ts.length : Int)) = false := by simp; omega
            have hne' : (n : Int) = 1 + (ts.length : Int) := by omega
            have HL := Lib.hid hlen
            clear hE0 hE1 hnr hlen hk0
            rw [HTS.out] at HR
            have hkb : ((K : Int) == 0) = false := by simpa using hk0'
            have hz7 := H7.low.size
            go_wp2_with fail
            go_loopw [47] (LoopE w b off ((35, f2) :: r) f2 g1 a7 ts c) (fun i _ => ts.length - (intOf i).toNat)
            case atStart => exact ⟨0, _, Nat.zero_le _, rfl, H7, X7, at7, HR.out.symm⟩
            case round =>
              clear H7 X7 at7 hz7 k7
              obtain ⟨k, v, hk, rfl, H, X, hat, HG⟩ := hrel
              by_cases hlt : k < ts.length
              · obtain ⟨b2, off2, rfl, hcell⟩ := hat k _ (i64s_get ts k hlt)
                have hkr : k < r.length := by have := HL.out; omega
                obtain ⟨_, _, e, c0, c1⟩ := fld_at H.at_ (k + 1) (by simp; omega)
                cases e
                simp only [List.getElem_cons_succ] at c0 c1
                have hO1 := hO.out _ (List.getElem_mem hkr)
                have hT1 := hTm.out _ (List.getElem_mem hlt)
                have hS := Lib.hid (fun v' h => getAll_step (v' := v') (c := c) hlt hkr HG.out h)
                have hB := Lib.hid (fun v' e h h1 => getAll_bad (v' := v') (e := e) (c := c) hlt hkr HG.out h h1)
                have HAT := Lib.hid hat
                have hz := World.block_lt_of_cell? wr _ c0
                clear hat HG
                generalize hft : r[k] = f at *
                generalize htt : ts[k] = t at *
                obtain ⟨f1, f3⟩ := f
                simp only at c0 c1 hO1
                clear hft htt
                have hwi : IntKind.i64.wrap (1 + (k : Int)) = ((k + 1 : Nat) : Int) := by rw [IntWalk.i64_in _ (by omega)]; omega
                by_cases h1 : f1 = t
                · subst h1
                  by_cases hnil : f3 = []
                  · subst hnil
                    have hR := Lib.hid (hB.out Ev.zero 11 (one_form (.inr rfl)) (by decide))
                    clear hT1 hS hB
                    have H8 := H.alloc (.cells #[.int .i64 f1, .string ⟨#[]⟩] 43)
                    go_wp2_with (first | ((with_reducible refine wpList_store_box rfl 23 (.tmp 2) (.tmp 81) rfl (Ev.cells Ev.zero) H8.bx ?_ ?_ ?_ ?_ ?_ ?_); (· exact size12 _); (· rfl); (· exact ev_one _); (· rfl); (· rfl); rw [Box.rowSelf H8.bx]))
                    exact bodyPost_ret (results_cell_slot (by rfl) _ _ H8.bx Tryz.underlying23 rfl (size12 _) rfl) rfl ⟨ret_ev (HC.out.trans hR.out) rfl rfl, H8.low⟩
                  · have hem : f3.isEmpty = false := by simp [hnil]
                    have hem2 : (f3 == []) = false := by simp [hnil]
                    have hne1 : (f1 != f1) = false := by simp
                    have hzg := X.lt
                    have H8 := H.alloc (.cells #[.int .i64 f1, .string ⟨f3.toArray⟩] 43)
                    have X8 := X.alloc (.cells #[.int .i64 f1, .string ⟨f3.toArray⟩] 43)
                    have A8 := HAT.out.keep ((Below.refl _ _).alloc (Nat.le_refl _) (.cells #[.int .i64 f1, .string ⟨f3.toArray⟩] 43))
                    by_cases h107 : f1 = 107
                    · subst h107
                      have hG := Lib.hid (hS.out _ (one_nm hnil))
                      clear hT1 hS hB
                      have d0 : wr.cell? ⟨g1, 11, none⟩ = some (.string ⟨v.name.toArray⟩) := X.cell 11
                      have d1 := X.frozen 11
                      go_wp2_with fail
                      go_roundw
                      case rel => exact LoopE.alloc (LoopE.next hlt H X HAT.out hg1 hbg HN7.out (name_cells v f3) hG.out) _
                      case measure => simp [intOf]; omega
                    · by_cases h201 : f1 = 201
                      · subst h201
                        have d0 : wr.cell? ⟨g1, 10, none⟩ = some (.bool v.call) := X.cell 10
                        have d1 := X.frozen 10
                        by_cases hy : f3 = [89]
                        · subst hy
                          have hG := Lib.hid (hS.out _ one_yes)
                          clear hT1 hS hB
                          go_wp2_with fail
                          go_roundw
                          case rel => exact LoopE.alloc (LoopE.next hlt H X HAT.out hg1 hbg HN7.out (call_cells v true) hG.out) _
                          case measure => simp [intOf]; omega
                        · by_cases hy2 : f3 = [78]
                          · subst hy2
                            have hG := Lib.hid (hS.out _ one_no)
                            clear hT1 hS hB
                            go_wp2_with fail
                            go_roundw
                            case rel => exact LoopE.alloc (LoopE.next hlt H X HAT.out hg1 hbg HN7.out (call_cells v false) hG.out) _
                            case measure => simp [intOf]; omega
                          · have hR := Lib.hid (hB.out Ev.zero 11 (one_odd hy hy2) (by decide))
                            have y1 : (f3 == [89]) = false := by simpa using hy
                            have y2 : (f3 == [78]) = false := by simpa using hy2
                            clear hT1 hS hB d0 d1
                            go_wp2_with (first | ((with_reducible refine wpList_store_box rfl 23 (.tmp 2) (.tmp 101) rfl (Ev.cells Ev.zero) H8.bx ?_ ?_ ?_ ?_ ?_ ?_); (· exact size12 _); (· rfl); (· exact ev_one _); (· rfl); (· rfl); rw [Box.rowSelf H8.bx]))
                            exact bodyPost_ret (results_cell_slot (by rfl) _ _ H8.bx Tryz.underlying23 rfl (size12 _) rfl) rfl ⟨ret_ev (HC.out.trans hR.out) rfl rfl, H8.low⟩
                      · have PC := fun W => parse_calls f3 0 W (Nat.le_trans hO1 (by decide)) (by unfold I64; omega)
                        rw [ParV_zero] at PC
                        have t1 : (f1 == 107) = false := by simpa using h107
                        have t2 : (f1 == 201) = false := by simpa using h201
                        generalize hpf : parseF f3 0 = pr at *
                        obtain ⟨x, pe⟩ := pr
                        simp only at PC
                        have hAt := Lib.hid (fun W => at_calls g1 f1 W)
                        have PC := Lib.hid PC
                        by_cases hpe : pe = 0
                        · subst hpe
                          have hG := Lib.hid (hS.out _ (one_set h107 h201 hnil hpf))
                          clear hT1 hS hB hpf
                          go_wp2_with (first
                            | (go_at_call 21; refine (PC.out _).mono ?_; rintro e w9 ⟨rfl, b9⟩; have H9 := H8.keep b9; have X9 := X8.keep b9; have A9 := Lib.hid (A8.keep b9); have d0 := X9.cell (place f1); rw [place_get] at d0; have d1 := X9.frozen (place f1))
                            | (go_at_call 19; refine (hAt.out _).mono ?_; rintro e w10 ⟨rfl, rfl⟩))
                          go_roundw
                          case rel => exact LoopE.next hlt H9 X9 A9.out hg1 hbg HN7.out (setN_cells v f1 x) hG.out
                          case measure => simp [intOf]; omega
                        · have hR := Lib.hid (hB.out Ev.zero pe (one_err h107 h201 hnil hpf hpe) hpe)
                          have hpe1 : (pe != 0) = true := by simpa using hpe
                          clear hT1 hS hB hpf
                          go_wp2_with (first
                            | (go_at_call 21; refine (PC.out _).mono ?_; rintro e w9 ⟨rfl, b9⟩; have H9 := H8.keep b9)
                            | ((with_reducible refine wpList_store_box rfl 23 (.tmp 2) (.tmp 65) rfl (Ev.cells Ev.zero) H9.bx ?_ ?_ ?_ ?_ ?_ ?_); (· exact size12 _); (· rfl); (· exact ev_one _); (· rfl); (· rfl); rw [Box.rowSelf H9.bx]))
                          exact bodyPost_ret (results_cell_slot (by rfl) _ _ H9.bx Tryz.underlying23 rfl (size12 _) rfl) rfl ⟨ret_ev (HC.out.trans hR.out) rfl rfl, H9.low⟩
                · have hR := Lib.hid (hB.out Ev.zero 11 (one_form (.inl h1)) (by decide))
                  have hne1 : (f1 != t) = true := by simpa using h1
                  clear hT1 hS hB
                  have H8 := H.alloc (.cells #[.int .i64 f1, .string ⟨f3.toArray⟩] 43)
                  go_wp2_with (first | ((with_reducible refine wpList_store_box rfl 23 (.tmp 2) (.tmp 81) rfl (Ev.cells Ev.zero) H8.bx ?_ ?_ ?_ ?_ ?_ ?_); (· exact size12 _); (· rfl); (· exact ev_one _); (· rfl); (· rfl); rw [Box.rowSelf H8.bx]))
                  exact bodyPost_ret (results_cell_slot (by rfl) _ _ H8.bx Tryz.underlying23 rfl (size12 _) rfl) rfl ⟨ret_ev (HC.out.trans hR.out) rfl rfl, H8.low⟩
              · have hkk : k = ts.length := by omega
                subst hkk
                have hR := Lib.hid (getAll_end HG.out)
                clear HG hlt
                go_wp2_with (first | ((with_reducible refine wpList_load_box rfl 23 (.tmp 4) rfl X Tryz.underlying23 ?_ ?_ ?_ ?_); (· rfl); (· exact size12 _); (· rfl)) | ((with_reducible refine wpList_store_box rfl 23 (.tmp 2) (.tmp 110) rfl (Ev.cells v) H.bx ?_ ?_ ?_ ?_ ?_ ?_); (· exact size12 _); (· rfl); (· exact ev_one _); (· rfl); (· rfl); skip))
                have H9 := Box.row H.bx (Ev.cells v)
                exact bodyPost_ret (results_cell_slot (by rfl) _ _ H9 Tryz.underlying23 rfl (size12 _) rfl) rfl ⟨ret_ev (HC.out.trans hR.out) rfl rfl, below_setRow H.low (Nat.le_refl _) _⟩
          · have HR := Lib.hid (hE0.out (.inr (.inr hlen)))
            have hne : ((n : Int) != 1 + (ts.length : Int)) = true := by simp; omega
            have hne' : ¬ (n : Int) = 1 + (ts.length : Int) := by omega
            clear hE0 hE1 hTm hnr hlen hk0
            go_wp2_with (first | ((with_reducible refine wpList_store_box rfl 23 (.tmp 2) (.tmp 44) rfl (Ev.cells Ev.zero) H7.bx ?_ ?_ ?_ ?_ ?_ ?_); (· exact size12 _); (· rfl); (· exact ev_one _); (· rfl); (· rfl); rw [Box.rowSelf H7.bx]))
            exact bodyPost_ret (results_cell_slot (by rfl) _ _ H7.bx Tryz.underlying23 rfl (size12 _) rfl) rfl ⟨ret_ev (HC.out.trans HR.out) rfl rfl, H7.low⟩
    · have HR := Lib.hid (@eventR_not (f1, f2) r (.inl h35))
      have hne : (f1 != 35) = true := by simpa using h35
      go_wp2_with (first | ((with_reducible refine wpList_store_box rfl 23 (.tmp 2) (.tmp 21) rfl (Ev.cells Ev.zero) X0' ?_ ?_ ?_ ?_ ?_ ?_); (· exact size12 _); (· rfl); (· exact ev_one _); (· rfl); (· rfl); rw [Box.rowSelf X0']))
      exact bodyPost_ret (results_cell_slot (by rfl) _ _ X0' Tryz.underlying23 rfl (size12 _) rfl) rfl ⟨ret_ev HR.out rfl rfl, B0⟩
end Go.Proofs.YtbpndiegbfpigaaGreatDoor.PortW
