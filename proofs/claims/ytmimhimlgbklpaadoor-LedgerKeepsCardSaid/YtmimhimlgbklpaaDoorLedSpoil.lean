/- spoil of the ledger's laws: it writes over a ledger's lists, and nowhere else. Written by genspoil.py. -/
import Derived.Test.YtmimhimlgbklpaaDoorLedOnly
set_option linter.unusedSimpArgs false
set_option linter.unusedVariables false
namespace Go.Proofs.YtmimhimlgbklpaaDoor.LedW
open Go.RowKit Go.Proofs.YtmimhimlgbklpaaDoor.Bas Go.Proofs.YtmimhimlgbklpaaDoor.LedM

def SameLen (l m : Led) : Prop := m.curs.length = l.curs.length ∧ m.unders.length = l.unders.length ∧ m.instrs.length = l.instrs.length ∧ m.accts.length = l.accts.length ∧ m.poss.length = l.poss.length ∧ m.orders.length = l.orders.length ∧ m.avail.length = l.avail.length ∧ m.locs.length = l.locs.length
/-- a ledger that is being spoilt: m for l -/
structure SP (lo hi : Nat) (w W : World) (s : Lists) (l m : Led) (us : List (Value × Acc)) : Prop where
  own : LedOwn lo W s m us
  top : Top hi s us
  only : Only lo hi w W
  box : Box W w.heap.size 37 #[.int .i64 l.day, .slice s.a1 l.curs.length s.c1, .slice s.a2 l.unders.length s.c2, .slice s.a3 l.instrs.length s.c3, .slice s.a4 l.accts.length s.c4, .slice s.a5 l.poss.length s.c5, .slice s.a6 l.orders.length s.c6, .slice s.a7 l.avail.length s.c7, .slice s.a8 l.locs.length s.c8]
  len : SameLen l m
  big : hi ≤ w.heap.size
theorem SP.set_box {lo hi : Nat} {w W : World} {s : Lists} {l m : Led} {us : List (Value × Acc)} (h : SP lo hi w W s l m us) {g : Nat} (h1 : g < hi) (k : Nat) (u : Value) : Box (W.setCell ⟨g, k, none⟩ u) w.heap.size 37 #[.int .i64 l.day, .slice s.a1 l.curs.length s.c1, .slice s.a2 l.unders.length s.c2, .slice s.a3 l.instrs.length s.c3, .slice s.a4 l.accts.length s.c4, .slice s.a5 l.poss.length s.c5, .slice s.a6 l.orders.length s.c6, .slice s.a7 l.avail.length s.c7, .slice s.a8 l.locs.length s.c8] := h.box.far (p := ⟨g, k, none⟩) (by have := h.big; simp; omega) u
theorem box_putR {g g' : Nat} {t : TypeId} {cs : Array Value} (hne : g' ≠ g) : ∀ (vs : List Value) {W : World} (off : Nat), Box W g' t cs → Box (putR W g off vs) g' t cs
  | [], _, _, h => h
  | v :: r, _, off, h => box_putR hne r (off + 1) (h.far (p := ⟨g, off, none⟩) hne v)
theorem only_putR {lo hi g : Nat} (h1 : lo ≤ g) (h2 : g < hi) : ∀ (vs : List Value) {w W : World} (off : Nat), Only lo hi w W → Only lo hi w (putR W g off vs)
  | [], _, _, _, h => h
  | v :: r, _, _, off, h => only_putR h1 h2 r (off + 1) (h.trans (Only.set h1 h2 off v))
theorem ret_none {f : Prop} (h : f) : f := h

theorem SP.put_curs {lo hi : Nat} {w W : World} {s : Lists} {l m : Led} {us : List (Value × Acc)} (h : SP lo hi w W s l m us) {k : Nat} (hk : k < m.curs.length) {g : Nat} (ha : s.a1 = some ⟨g, 0, none⟩) :
    SP lo hi w (putR W g (k * 2) (curC (-7, 0))) s l { m with curs := m.curs.set k (-7, 0) } us := by
  have hr := h.own.curs
  have hg : lo ≤ g ∧ g < W.heap.size := hr.lt g (by rw [ha]; rfl)
  have hh : g < hi := h.top.t1 _ ha
  have ho : (Value.slice s.a1 m.curs.length s.c1).ownBlock = some g := by rw [ha]; rfl
  rw [ha] at hr
  have hb : w.heap.size ≠ g := by have := h.big; omega
  refine ⟨h.own.put_curs (List.length_set ..) (by rw [ho]; exact (own_putR _ _ hr).2) (by rw [ha]; rw [flat_setR len_cur _ _ _ hk]; exact (own_putR (curC (-7, 0)) (k * 2) hr).1), h.top, only_putR hg.1 hh _ _ h.only, box_putR hb _ _ h.box, ⟨by rw [List.length_set]; exact h.len.1, h.len.2.1, h.len.2.2.1, h.len.2.2.2.1, h.len.2.2.2.2.1, h.len.2.2.2.2.2.1, h.len.2.2.2.2.2.2.1, h.len.2.2.2.2.2.2.2⟩, h.big⟩

theorem SP.put_unders {lo hi : Nat} {w W : World} {s : Lists} {l m : Led} {us : List (Value × Acc)} (h : SP lo hi w W s l m us) {k : Nat} (hk : k < m.unders.length) {g : Nat} (ha : s.a2 = some ⟨g, 0, none⟩) :
    SP lo hi w (putR W g (k * 4) (undC ⟨[115, 112, 111, 105, 108, 116], 0, 0, 0⟩)) s l { m with unders := m.unders.set k ⟨[115, 112, 111, 105, 108, 116], 0, 0, 0⟩ } us := by
  have hr := h.own.unders
  have hg : lo ≤ g ∧ g < W.heap.size := hr.lt g (by rw [ha]; rfl)
  have hh : g < hi := h.top.t2 _ ha
  have ho : (Value.slice s.a2 m.unders.length s.c2).ownBlock = some g := by rw [ha]; rfl
  rw [ha] at hr
  have hb : w.heap.size ≠ g := by have := h.big; omega
  refine ⟨h.own.put_unders (List.length_set ..) (by rw [ho]; exact (own_putR _ _ hr).2) (by rw [ha]; rw [flat_setR len_und _ _ _ hk]; exact (own_putR (undC ⟨[115, 112, 111, 105, 108, 116], 0, 0, 0⟩) (k * 4) hr).1), h.top, only_putR hg.1 hh _ _ h.only, box_putR hb _ _ h.box, ⟨h.len.1, by rw [List.length_set]; exact h.len.2.1, h.len.2.2.1, h.len.2.2.2.1, h.len.2.2.2.2.1, h.len.2.2.2.2.2.1, h.len.2.2.2.2.2.2.1, h.len.2.2.2.2.2.2.2⟩, h.big⟩

theorem SP.put_instrs {lo hi : Nat} {w W : World} {s : Lists} {l m : Led} {us : List (Value × Acc)} (h : SP lo hi w W s l m us) {k : Nat} (hk : k < m.instrs.length) {g : Nat} (ha : s.a3 = some ⟨g, 0, none⟩) :
    SP lo hi w (putR W g (k * 7) (insC ⟨-7, 0, 0, 0, 0, false, 0⟩)) s l { m with instrs := m.instrs.set k ⟨-7, 0, 0, 0, 0, false, 0⟩ } us := by
  have hr := h.own.instrs
  have hg : lo ≤ g ∧ g < W.heap.size := hr.lt g (by rw [ha]; rfl)
  have hh : g < hi := h.top.t3 _ ha
  have ho : (Value.slice s.a3 m.instrs.length s.c3).ownBlock = some g := by rw [ha]; rfl
  rw [ha] at hr
  have hb : w.heap.size ≠ g := by have := h.big; omega
  refine ⟨h.own.put_instrs (List.length_set ..) (by rw [ho]; exact (own_putR _ _ hr).2) (by rw [ha]; rw [flat_setR len_ins _ _ _ hk]; exact (own_putR (insC ⟨-7, 0, 0, 0, 0, false, 0⟩) (k * 7) hr).1), h.top, only_putR hg.1 hh _ _ h.only, box_putR hb _ _ h.box, ⟨h.len.1, h.len.2.1, by rw [List.length_set]; exact h.len.2.2.1, h.len.2.2.2.1, h.len.2.2.2.2.1, h.len.2.2.2.2.2.1, h.len.2.2.2.2.2.2.1, h.len.2.2.2.2.2.2.2⟩, h.big⟩

theorem SP.put_poss {lo hi : Nat} {w W : World} {s : Lists} {l m : Led} {us : List (Value × Acc)} (h : SP lo hi w W s l m us) {k : Nat} (hk : k < m.poss.length) {g : Nat} (ha : s.a5 = some ⟨g, 0, none⟩) :
    SP lo hi w (putR W g (k * 3) (triC (-7, 0, 0))) s l { m with poss := m.poss.set k (-7, 0, 0) } us := by
  have hr := h.own.poss
  have hg : lo ≤ g ∧ g < W.heap.size := hr.lt g (by rw [ha]; rfl)
  have hh : g < hi := h.top.t5 _ ha
  have ho : (Value.slice s.a5 m.poss.length s.c5).ownBlock = some g := by rw [ha]; rfl
  rw [ha] at hr
  have hb : w.heap.size ≠ g := by have := h.big; omega
  refine ⟨h.own.put_poss (List.length_set ..) (by rw [ho]; exact (own_putR _ _ hr).2) (by rw [ha]; rw [flat_setR len_pos _ _ _ hk]; exact (own_putR (triC (-7, 0, 0)) (k * 3) hr).1), h.top, only_putR hg.1 hh _ _ h.only, box_putR hb _ _ h.box, ⟨h.len.1, h.len.2.1, h.len.2.2.1, h.len.2.2.2.1, by rw [List.length_set]; exact h.len.2.2.2.2.1, h.len.2.2.2.2.2.1, h.len.2.2.2.2.2.2.1, h.len.2.2.2.2.2.2.2⟩, h.big⟩

theorem SP.put_orders {lo hi : Nat} {w W : World} {s : Lists} {l m : Led} {us : List (Value × Acc)} (h : SP lo hi w W s l m us) {k : Nat} (hk : k < m.orders.length) {g : Nat} (ha : s.a6 = some ⟨g, 0, none⟩) :
    SP lo hi w (putR W g (k * 5) (ordC ⟨-7, 0, 0, 0, 0⟩)) s l { m with orders := m.orders.set k ⟨-7, 0, 0, 0, 0⟩ } us := by
  have hr := h.own.orders
  have hg : lo ≤ g ∧ g < W.heap.size := hr.lt g (by rw [ha]; rfl)
  have hh : g < hi := h.top.t6 _ ha
  have ho : (Value.slice s.a6 m.orders.length s.c6).ownBlock = some g := by rw [ha]; rfl
  rw [ha] at hr
  have hb : w.heap.size ≠ g := by have := h.big; omega
  refine ⟨h.own.put_orders (List.length_set ..) (by rw [ho]; exact (own_putR _ _ hr).2) (by rw [ha]; rw [flat_setR len_ord _ _ _ hk]; exact (own_putR (ordC ⟨-7, 0, 0, 0, 0⟩) (k * 5) hr).1), h.top, only_putR hg.1 hh _ _ h.only, box_putR hb _ _ h.box, ⟨h.len.1, h.len.2.1, h.len.2.2.1, h.len.2.2.2.1, h.len.2.2.2.2.1, by rw [List.length_set]; exact h.len.2.2.2.2.2.1, h.len.2.2.2.2.2.2.1, h.len.2.2.2.2.2.2.2⟩, h.big⟩

theorem SP.put_avail {lo hi : Nat} {w W : World} {s : Lists} {l m : Led} {us : List (Value × Acc)} (h : SP lo hi w W s l m us) {k : Nat} (hk : k < m.avail.length) {g : Nat} (ha : s.a7 = some ⟨g, 0, none⟩) :
    SP lo hi w (putR W g k [.int .i64 (-7)]) s l { m with avail := m.avail.set k (-7) } us := by
  have hr := h.own.avail
  have hg : lo ≤ g ∧ g < W.heap.size := hr.lt g (by rw [ha]; rfl)
  have hh : g < hi := h.top.t7 _ ha
  have ho : (Value.slice s.a7 m.avail.length s.c7).ownBlock = some g := by rw [ha]; rfl
  rw [ha] at hr
  have hb : w.heap.size ≠ g := by have := h.big; omega
  refine ⟨h.own.put_avail (List.length_set ..) (by rw [ho]; exact (own_putR _ _ hr).2) (by rw [ha]; rw [i64s_set]; have := (own_putR [.int .i64 (-7)] k hr).1; exact this), h.top, only_putR hg.1 hh _ _ h.only, box_putR hb _ _ h.box, ⟨h.len.1, h.len.2.1, h.len.2.2.1, h.len.2.2.2.1, h.len.2.2.2.2.1, h.len.2.2.2.2.2.1, by rw [List.length_set]; exact h.len.2.2.2.2.2.2.1, h.len.2.2.2.2.2.2.2⟩, h.big⟩

theorem SP.put_locs {lo hi : Nat} {w W : World} {s : Lists} {l m : Led} {us : List (Value × Acc)} (h : SP lo hi w W s l m us) {k : Nat} (hk : k < m.locs.length) {g : Nat} (ha : s.a8 = some ⟨g, 0, none⟩) :
    SP lo hi w (putR W g (k * 3) (triC (-7, 0, 0))) s l { m with locs := m.locs.set k (-7, 0, 0) } us := by
  have hr := h.own.locs
  have hg : lo ≤ g ∧ g < W.heap.size := hr.lt g (by rw [ha]; rfl)
  have hh : g < hi := h.top.t8 _ ha
  have ho : (Value.slice s.a8 m.locs.length s.c8).ownBlock = some g := by rw [ha]; rfl
  rw [ha] at hr
  have hb : w.heap.size ≠ g := by have := h.big; omega
  refine ⟨h.own.put_locs (List.length_set ..) (by rw [ho]; exact (own_putR _ _ hr).2) (by rw [ha]; rw [flat_setR len_pos _ _ _ hk]; exact (own_putR (triC (-7, 0, 0)) (k * 3) hr).1), h.top, only_putR hg.1 hh _ _ h.only, box_putR hb _ _ h.box, ⟨h.len.1, h.len.2.1, h.len.2.2.1, h.len.2.2.2.1, h.len.2.2.2.2.1, h.len.2.2.2.2.2.1, h.len.2.2.2.2.2.2.1, by rw [List.length_set]; exact h.len.2.2.2.2.2.2.2⟩, h.big⟩

theorem SP.put_acct {lo hi : Nat} {w W : World} {s : Lists} {l m : Led} {us : List (Value × Acc)} (h : SP lo hi w W s l m us) {k : Nat} (hk : k < us.length) {g : Nat} (ha : s.a4 = some ⟨g, 0, none⟩) :
    SP lo hi w (putR W g (k * 4) (accC (.slice none 0 0, ⟨-7, [], false, 0⟩))) s l { m with accts := m.accts.set k ⟨-7, [], false, 0⟩ } (us.set k (.slice none 0 0, ⟨-7, [], false, 0⟩)) := by
  have hr := h.own.accts
  have hg : lo ≤ g ∧ g < W.heap.size := hr.lt g (by rw [ha]; rfl)
  have hh : g < hi := h.top.t4 _ ha
  have ho : (Value.slice s.a4 m.accts.length s.c4).ownBlock = some g := by rw [ha]; rfl
  rw [ha] at hr
  have hb : w.heap.size ≠ g := by have := h.big; omega
  refine ⟨h.own.put_acct rfl (by rw [ho]; exact (own_putR _ _ hr).2) (by rw [ha, flat_setR len_acc _ _ _ hk]; exact (own_putR _ _ hr).1), ⟨h.top.t1, h.top.t2, h.top.t3, h.top.t4, h.top.t5, h.top.t6, h.top.t7, h.top.t8, fun x hx g' hg' => ?_⟩, only_putR hg.1 hh _ _ h.only, box_putR hb _ _ h.box, ⟨h.len.1, h.len.2.1, h.len.2.2.1, by rw [List.length_set]; exact h.len.2.2.2.1, h.len.2.2.2.2⟩, h.big⟩
  rcases List.mem_or_eq_of_mem_set hx with hx | rfl
  · exact h.top.cash x hx g' hg'
  · simp [Value.ownBlock] at hg'
theorem modify_mem_fst {c : Nat} {x : Int} {us : List (Value × Acc)} {k : Nat} {y : Value × Acc} (h : y ∈ us.modify k (putV c x)) : ∃ z ∈ us, z.1 = y.1 := by
  rcases mem_modify h with h | ⟨z, h1, rfl⟩
  · exact ⟨y, h, rfl⟩
  · exact ⟨z, List.mem_of_getElem? h1, rfl⟩
theorem SP.put_cash {lo hi : Nat} {w W : World} {s : Lists} {l m : Led} {us : List (Value × Acc)} (h : SP lo hi w W s l m us) {v c : Nat} (hv : v < us.length) (hvl : v < m.accts.length) (hc : c < (m.accts[v]).cash.length) :
    ∃ g cap, us[v].1 = .slice (some ⟨g, 0, none⟩) (m.accts[v]).cash.length cap ∧ (∃ u, W.cell? ⟨g, c, none⟩ = some u) ∧ W.frozen? ⟨g, c, none⟩ = false ∧ SP lo hi w (W.setCell ⟨g, c, none⟩ (.int .i64 (-7))) s l (setCash m v c (-7)) (us.modify v (putV c (-7))) := by
  obtain ⟨g, cap, e1, h1, h2, h3, h4, h5⟩ := h.own.row hv hvl hc
  have hh : g < hi := h.top.cash _ (List.getElem_mem hv) g (by rw [e1]; rfl)
  refine ⟨g, cap, e1, ⟨_, h3⟩, h4, h5 (-7), ⟨h.top.t1, h.top.t2, h.top.t3, h.top.t4, h.top.t5, h.top.t6, h.top.t7, h.top.t8, fun x hx g' hg' => ?_⟩, h.only.trans (Only.set h1 hh c _), h.set_box hh c _, ⟨h.len.1, h.len.2.1, h.len.2.2.1, by rw [setCash_len]; exact h.len.2.2.2.1, h.len.2.2.2.2⟩, h.big⟩
  obtain ⟨z, hz, e⟩ := modify_mem_fst hx
  exact h.top.cash z hz g' (by rw [e]; exact hg')
theorem SP.usLen {lo hi : Nat} {w W : World} {s : Lists} {l m : Led} {us : List (Value × Acc)} (h : SP lo hi w W s l m us) : us.length = l.accts.length := by rw [h.own.len]; exact h.len.2.2.2.1

set_option maxHeartbeats 8000000 in
set_option maxRecDepth 100000 in
theorem spoil_calls (lo hi : Nat) (s : Lists) (l : Led) (us : List (Value × Acc)) (w : World) (hown : LedOwn lo w s l us) (htop : Top hi s us) (hbig : hi ≤ w.heap.size) (hf : LedFit l) :
    Calls Tryd.prog 15 #[ledV s l] w fun e w' => e = .returned (.tuple #[]) ∧ Only lo hi w w' := by
  unfold ledV
  obtain ⟨n1, n2, n3, n4, n5, n6, n7, n8⟩ := hf.len
  have X : SP lo hi w (w.alloc (.cells #[.int .i64 l.day, .slice s.a1 l.curs.length s.c1, .slice s.a2 l.unders.length s.c2, .slice s.a3 l.instrs.length s.c3, .slice s.a4 l.accts.length s.c4, .slice s.a5 l.poss.length s.c5, .slice s.a6 l.orders.length s.c6, .slice s.a7 l.avail.length s.c7, .slice s.a8 l.locs.length s.c8] 37)) s l l us := ⟨hown.below ((Below.refl _ _).alloc (Nat.le_refl _) _), htop, (Only.refl _ _ _).alloc _, Box.new _ _ _, ⟨rfl, rfl, rfl, rfl, rfl, rfl, rfl, rfl⟩, hbig⟩
  clear hown htop hf
  go_enter Tryd.func15, Tryd.ntmps15
  go_upto_region 1 with fail
  generalize w.alloc (.cells #[.int .i64 l.day, .slice s.a1 l.curs.length s.c1, .slice s.a2 l.unders.length s.c2, .slice s.a3 l.instrs.length s.c3, .slice s.a4 l.accts.length s.c4, .slice s.a5 l.poss.length s.c5, .slice s.a6 l.orders.length s.c6, .slice s.a7 l.avail.length s.c7, .slice s.a8 l.locs.length s.c8] 37) = w0 at *
  have XH : Hid (∃ m us, SP lo hi w w0 s l m us) := ⟨l, us, X⟩
  clear X
  have c1 : w0.cell? ⟨w.heap.size, 1, none⟩ = some (.slice s.a1 l.curs.length s.c1) := by obtain ⟨m, us, X⟩ := XH.out; exact X.box.cell 1
  go_wp2_with fail
  clear c1
  go_loopw [14] (fun i wr => ∃ (k : Nat) (m : Led) (us : List (Value × Acc)), k ≤ l.curs.length ∧ i = .int .i64 (k : Int) ∧ SP lo hi w wr s l m us) (fun i _ => l.curs.length - (intOf i).toNat)
  case atStart =>
    obtain ⟨m, us, X⟩ := XH.out
    exact ⟨0, m, us, by omega, rfl, X⟩
  case round =>
    clear XH
    obtain ⟨k, m, us, hk, rfl, X⟩ := hrel
    by_cases hlt : k < l.curs.length
    · have hkm : k < m.curs.length := by rw [X.len.1]; exact hlt
      obtain ⟨g, ha, _, _⟩ := own_block X.own.curs (by omega)
      have hr := X.own.curs
      rw [ha] at hr
      obtain ⟨u0, d0⟩ : ∃ u, wr.cell? ⟨g, k * 2, none⟩ = some u := own_cell hr (k * 2) (by omega)
      have t0 : wr.frozen? ⟨g, k * 2, none⟩ = false := hr.frozenAt (k * 2)
      obtain ⟨u1, d1⟩ : ∃ u, wr.cell? ⟨g, k * 2 + 1, none⟩ = some u := own_cell hr (k * 2 + 1) (by omega)
      have t1 : wr.frozen? ⟨g, k * 2 + 1, none⟩ = false := hr.frozenAt (k * 2 + 1)
      have cb := X.box.cell 1
      have cb2 : wr.cell? ⟨w.heap.size, 1, none⟩ = some (.slice s.a1 l.curs.length s.c1) := cb
      have XN := Lib.hid (X.put_curs hkm ha)
      have hw : w.heap.size ≠ g := by have h1 := X.big; have h2 := X.top.t1 _ ha; simp only at h2; omega
      rw [ha] at cb2 ⊢
      clear cb hr X ha
      go_wp2_with fail
      go_roundw
      case rel => exact ⟨k + 1, _, us, by omega, by go_num, XN.out⟩
      case measure => simp [intOf]; omega
    · have XH : Hid (∃ m us, SP lo hi w wr s l m us) := ⟨m, us, X⟩
      have c2 : wr.cell? ⟨w.heap.size, 2, none⟩ = some (.slice s.a2 l.unders.length s.c2) := X.box.cell 2
      clear X
      go_wp2_with fail
      clear c2
      go_loopw [26] (fun i wr => ∃ (k : Nat) (m : Led) (us : List (Value × Acc)), k ≤ l.unders.length ∧ i = .int .i64 (k : Int) ∧ SP lo hi w wr s l m us) (fun i _ => l.unders.length - (intOf i).toNat)
      case atStart =>
        obtain ⟨m, us, X⟩ := XH.out
        exact ⟨0, m, us, by omega, rfl, X⟩
      case round =>
        clear XH
        obtain ⟨k, m, us, hk, rfl, X⟩ := hrel
        by_cases hlt : k < l.unders.length
        · have hkm : k < m.unders.length := by rw [X.len.2.1]; exact hlt
          obtain ⟨g, ha, _, _⟩ := own_block X.own.unders (by omega)
          have hr := X.own.unders
          rw [ha] at hr
          obtain ⟨u0, d0⟩ : ∃ u, wr.cell? ⟨g, k * 4, none⟩ = some u := own_cell hr (k * 4) (by omega)
          have t0 : wr.frozen? ⟨g, k * 4, none⟩ = false := hr.frozenAt (k * 4)
          obtain ⟨u1, d1⟩ : ∃ u, wr.cell? ⟨g, k * 4 + 1, none⟩ = some u := own_cell hr (k * 4 + 1) (by omega)
          have t1 : wr.frozen? ⟨g, k * 4 + 1, none⟩ = false := hr.frozenAt (k * 4 + 1)
          obtain ⟨u2, d2⟩ : ∃ u, wr.cell? ⟨g, k * 4 + 2, none⟩ = some u := own_cell hr (k * 4 + 2) (by omega)
          have t2 : wr.frozen? ⟨g, k * 4 + 2, none⟩ = false := hr.frozenAt (k * 4 + 2)
          obtain ⟨u3, d3⟩ : ∃ u, wr.cell? ⟨g, k * 4 + 3, none⟩ = some u := own_cell hr (k * 4 + 3) (by omega)
          have t3 : wr.frozen? ⟨g, k * 4 + 3, none⟩ = false := hr.frozenAt (k * 4 + 3)
          have cb := X.box.cell 2
          have cb2 : wr.cell? ⟨w.heap.size, 2, none⟩ = some (.slice s.a2 l.unders.length s.c2) := cb
          have XN := Lib.hid (X.put_unders hkm ha)
          have hw : w.heap.size ≠ g := by have h1 := X.big; have h2 := X.top.t2 _ ha; simp only at h2; omega
          rw [ha] at cb2 ⊢
          clear cb hr X ha
          go_wp2_with fail
          go_roundw
          case rel => exact ⟨k + 1, _, us, by omega, by go_num, XN.out⟩
          case measure => simp [intOf]; omega
        · have XH : Hid (∃ m us, SP lo hi w wr s l m us) := ⟨m, us, X⟩
          have c3 : wr.cell? ⟨w.heap.size, 3, none⟩ = some (.slice s.a3 l.instrs.length s.c3) := X.box.cell 3
          clear X
          go_wp2_with fail
          clear c3
          go_loopw [38] (fun i wr => ∃ (k : Nat) (m : Led) (us : List (Value × Acc)), k ≤ l.instrs.length ∧ i = .int .i64 (k : Int) ∧ SP lo hi w wr s l m us) (fun i _ => l.instrs.length - (intOf i).toNat)
          case atStart =>
            obtain ⟨m, us, X⟩ := XH.out
            exact ⟨0, m, us, by omega, rfl, X⟩
          case round =>
            clear XH
            obtain ⟨k, m, us, hk, rfl, X⟩ := hrel
            by_cases hlt : k < l.instrs.length
            · have hkm : k < m.instrs.length := by rw [X.len.2.2.1]; exact hlt
              obtain ⟨g, ha, _, _⟩ := own_block X.own.instrs (by omega)
              have hr := X.own.instrs
              rw [ha] at hr
              obtain ⟨u0, d0⟩ : ∃ u, wr.cell? ⟨g, k * 7, none⟩ = some u := own_cell hr (k * 7) (by omega)
              have t0 : wr.frozen? ⟨g, k * 7, none⟩ = false := hr.frozenAt (k * 7)
              obtain ⟨u1, d1⟩ : ∃ u, wr.cell? ⟨g, k * 7 + 1, none⟩ = some u := own_cell hr (k * 7 + 1) (by omega)
              have t1 : wr.frozen? ⟨g, k * 7 + 1, none⟩ = false := hr.frozenAt (k * 7 + 1)
              obtain ⟨u2, d2⟩ : ∃ u, wr.cell? ⟨g, k * 7 + 2, none⟩ = some u := own_cell hr (k * 7 + 2) (by omega)
              have t2 : wr.frozen? ⟨g, k * 7 + 2, none⟩ = false := hr.frozenAt (k * 7 + 2)
              obtain ⟨u3, d3⟩ : ∃ u, wr.cell? ⟨g, k * 7 + 3, none⟩ = some u := own_cell hr (k * 7 + 3) (by omega)
              have t3 : wr.frozen? ⟨g, k * 7 + 3, none⟩ = false := hr.frozenAt (k * 7 + 3)
              obtain ⟨u4, d4⟩ : ∃ u, wr.cell? ⟨g, k * 7 + 4, none⟩ = some u := own_cell hr (k * 7 + 4) (by omega)
              have t4 : wr.frozen? ⟨g, k * 7 + 4, none⟩ = false := hr.frozenAt (k * 7 + 4)
              obtain ⟨u5, d5⟩ : ∃ u, wr.cell? ⟨g, k * 7 + 5, none⟩ = some u := own_cell hr (k * 7 + 5) (by omega)
              have t5 : wr.frozen? ⟨g, k * 7 + 5, none⟩ = false := hr.frozenAt (k * 7 + 5)
              obtain ⟨u6, d6⟩ : ∃ u, wr.cell? ⟨g, k * 7 + 6, none⟩ = some u := own_cell hr (k * 7 + 6) (by omega)
              have t6 : wr.frozen? ⟨g, k * 7 + 6, none⟩ = false := hr.frozenAt (k * 7 + 6)
              have cb := X.box.cell 3
              have cb2 : wr.cell? ⟨w.heap.size, 3, none⟩ = some (.slice s.a3 l.instrs.length s.c3) := cb
              have XN := Lib.hid (X.put_instrs hkm ha)
              have hw : w.heap.size ≠ g := by have h1 := X.big; have h2 := X.top.t3 _ ha; simp only at h2; omega
              rw [ha] at cb2 ⊢
              clear cb hr X ha
              go_wp2_with fail
              go_roundw
              case rel => exact ⟨k + 1, _, us, by omega, by go_num, XN.out⟩
              case measure => simp [intOf]; omega
            · have XH : Hid (∃ m us, SP lo hi w wr s l m us) := ⟨m, us, X⟩
              have c4 : wr.cell? ⟨w.heap.size, 4, none⟩ = some (.slice s.a4 l.accts.length s.c4) := X.box.cell 4
              clear X
              go_wp2_with fail
              clear c4
              go_loopw [50] (fun i wr => ∃ (k : Nat) (m : Led) (us : List (Value × Acc)), k ≤ l.accts.length ∧ i = .int .i64 (k : Int) ∧ SP lo hi w wr s l m us) (fun i _ => l.accts.length - (intOf i).toNat)
              case atStart =>
                obtain ⟨m, us, X⟩ := XH.out
                exact ⟨0, m, us, by omega, rfl, X⟩
              case round =>
                clear XH
                obtain ⟨k, m, us, hk, rfl, X⟩ := hrel
                by_cases hlt : k < l.accts.length
                · have hkm : k < m.accts.length := by rw [X.len.2.2.2.1]; exact hlt
                  have hku : k < us.length := by rw [X.usLen]; exact hlt
                  obtain ⟨g4, ha⟩ := X.own.addr (by omega)
                  have hcc := X.own.cashCell hku ha
                  obtain ⟨cv, hcv⟩ : ∃ v, us[k].1 = v := ⟨_, rfl⟩
                  obtain ⟨ca, cap, hform, _, _⟩ : ∃ a cap, us[k].1 = .slice a us[k].2.cash.length cap ∧ us[k].2.cash.length ≤ cap ∧ True := by
                    obtain ⟨a, cap, h1, h2, h3⟩ := X.own.at_.cash _ (List.getElem_mem hku)
                    exact ⟨a, cap, h1, h2, trivial⟩
                  have hacc := X.own.acc hku hkm
                  rw [hacc] at hform
                  have cb2 : wr.cell? ⟨w.heap.size, 4, none⟩ = some (.slice s.a4 l.accts.length s.c4) := X.box.cell 4
                  rw [ha] at cb2
                  rw [hform] at hcc hcv
                  subst hcv
                  have HA := Lib.hid ha
                  have HForm := Lib.hid hform
                  have HBigN : (m.accts[k]).cash.length ≤ 9223372036854775807 := by
                    have := (X.own.cash _ (List.getElem_mem hku)).1
                    rcases (X.own.cash _ (List.getElem_mem hku)).2 with ⟨_, h0⟩ | ⟨_, cap', cur', _, _, _, h1, h2, _⟩
                    · rw [← hacc]; omega
                    · rw [← hacc]; unfold maxLen at h2; omega
                  have XO := Lib.hid X
                  clear X ha hform hacc
                  go_wp2_with fail
                  clear hcc cb2
                  go_loopw [60] (fun i wr => ∃ (q : Nat) (m2 : Led) (us2 : List (Value × Acc)), q ≤ (m.accts[k]).cash.length ∧ i = .int .i64 (q : Int) ∧ SP lo hi w wr s l m2 us2 ∧ Hid (us2.map (·.1) = us.map (·.1)) ∧ Hid (∀ h : k < m2.accts.length, (m2.accts[k]).cash.length = (m.accts[k]).cash.length)) (fun i _ => (m.accts[k]).cash.length - (intOf i).toNat)
                  case atStart => exact ⟨0, m, us, by omega, rfl, XO.out, rfl, fun _ => rfl⟩
                  case round =>
                    clear XO
                    obtain ⟨q, m2, us2, hq, rfl, X, HM, HCL⟩ := hrel
                    have hkm2 : k < m2.accts.length := by rw [X.len.2.2.2.1]; exact hlt
                    have hku2 : k < us2.length := by rw [X.usLen]; exact hlt
                    have hfst : us2[k].1 = us[k].1 := by
                      have := congrArg (fun l => l[k]?) HM.out
                      simpa [hku2, hku] using this
                    have hcc := X.own.cashCell hku2 HA.out
                    rw [hfst, HForm.out] at hcc
                    have cb2 : wr.cell? ⟨w.heap.size, 4, none⟩ = some (.slice s.a4 l.accts.length s.c4) := X.box.cell 4
                    rw [HA.out] at cb2
                    by_cases hql : q < (m.accts[k]).cash.length
                    · obtain ⟨g, cap', e1, ⟨u, hu⟩, hfr, XN⟩ := X.put_cash hku2 hkm2 (c := q) (by rw [HCL.out hkm2]; exact hql)
                      rw [hfst, HForm.out] at e1
                      obtain rfl : ca = some ⟨g, 0, none⟩ := by injection e1
                      have XNH := Lib.hid XN
                      have HM2 : Hid ((us2.modify k (putV q (-7))).map (·.1) = us.map (·.1)) := by unfold Hid; rw [modify_fst]; exact HM.out
                      have HCL2 : Hid (∀ h : k < (setCash m2 k q (-7)).accts.length, ((setCash m2 k q (-7)).accts[k]).cash.length = (m.accts[k]).cash.length) := fun h => by rw [setCash_cash m2 k q (-7) k hkm2]; exact HCL.out hkm2
                      clear X XN e1 hfst
                      go_wp2_with fail
                      go_roundw
                      case rel => exact ⟨q + 1, _, _, by omega, by go_num, XNH.out, HM2, HCL2⟩
                      case measure => simp [intOf]; omega
                    · have hr := X.own.accts
                      rw [HA.out] at hr
                      obtain ⟨u0, d0⟩ : ∃ u, wr.cell? ⟨g4, k * 4, none⟩ = some u := own_cell hr (k * 4) (by omega)
                      obtain ⟨u1, d1⟩ : ∃ u, wr.cell? ⟨g4, k * 4 + 1, none⟩ = some u := own_cell hr (k * 4 + 1) (by omega)
                      obtain ⟨u2, d2⟩ : ∃ u, wr.cell? ⟨g4, k * 4 + 2, none⟩ = some u := own_cell hr (k * 4 + 2) (by omega)
                      obtain ⟨u3, d3⟩ : ∃ u, wr.cell? ⟨g4, k * 4 + 3, none⟩ = some u := own_cell hr (k * 4 + 3) (by omega)
                      have t0 : wr.frozen? ⟨g4, k * 4, none⟩ = false := hr.frozenAt (k * 4)
                      have t1 : wr.frozen? ⟨g4, k * 4 + 1, none⟩ = false := hr.frozenAt (k * 4 + 1)
                      have t2 : wr.frozen? ⟨g4, k * 4 + 2, none⟩ = false := hr.frozenAt (k * 4 + 2)
                      have t3 : wr.frozen? ⟨g4, k * 4 + 3, none⟩ = false := hr.frozenAt (k * 4 + 3)
                      have XN := Lib.hid (X.put_acct hku2 HA.out)
                      clear X hr hcc hfst HM HCL
                      go_wp2_with fail
                      go_roundw
                      case rel => exact ⟨k + 1, _, _, by omega, by go_num, XN.out⟩
                      case measure => simp [intOf]; omega
                · have XH : Hid (∃ m us, SP lo hi w wr s l m us) := ⟨m, us, X⟩
                  have c5 : wr.cell? ⟨w.heap.size, 5, none⟩ = some (.slice s.a5 l.poss.length s.c5) := X.box.cell 5
                  clear X
                  go_wp2_with fail
                  clear c5
                  go_loopw [81] (fun i wr => ∃ (k : Nat) (m : Led) (us : List (Value × Acc)), k ≤ l.poss.length ∧ i = .int .i64 (k : Int) ∧ SP lo hi w wr s l m us) (fun i _ => l.poss.length - (intOf i).toNat)
                  case atStart =>
                    obtain ⟨m, us, X⟩ := XH.out
                    exact ⟨0, m, us, by omega, rfl, X⟩
                  case round =>
                    clear XH
                    obtain ⟨k, m, us, hk, rfl, X⟩ := hrel
                    by_cases hlt : k < l.poss.length
                    · have hkm : k < m.poss.length := by rw [X.len.2.2.2.2.1]; exact hlt
                      obtain ⟨g, ha, _, _⟩ := own_block X.own.poss (by omega)
                      have hr := X.own.poss
                      rw [ha] at hr
                      obtain ⟨u0, d0⟩ : ∃ u, wr.cell? ⟨g, k * 3, none⟩ = some u := own_cell hr (k * 3) (by omega)
                      have t0 : wr.frozen? ⟨g, k * 3, none⟩ = false := hr.frozenAt (k * 3)
                      obtain ⟨u1, d1⟩ : ∃ u, wr.cell? ⟨g, k * 3 + 1, none⟩ = some u := own_cell hr (k * 3 + 1) (by omega)
                      have t1 : wr.frozen? ⟨g, k * 3 + 1, none⟩ = false := hr.frozenAt (k * 3 + 1)
                      obtain ⟨u2, d2⟩ : ∃ u, wr.cell? ⟨g, k * 3 + 2, none⟩ = some u := own_cell hr (k * 3 + 2) (by omega)
                      have t2 : wr.frozen? ⟨g, k * 3 + 2, none⟩ = false := hr.frozenAt (k * 3 + 2)
                      have cb := X.box.cell 5
                      have cb2 : wr.cell? ⟨w.heap.size, 5, none⟩ = some (.slice s.a5 l.poss.length s.c5) := cb
                      have XN := Lib.hid (X.put_poss hkm ha)
                      have hw : w.heap.size ≠ g := by have h1 := X.big; have h2 := X.top.t5 _ ha; simp only at h2; omega
                      rw [ha] at cb2 ⊢
                      clear cb hr X ha
                      go_wp2_with fail
                      go_roundw
                      case rel => exact ⟨k + 1, _, us, by omega, by go_num, XN.out⟩
                      case measure => simp [intOf]; omega
                    · have XH : Hid (∃ m us, SP lo hi w wr s l m us) := ⟨m, us, X⟩
                      have c6 : wr.cell? ⟨w.heap.size, 6, none⟩ = some (.slice s.a6 l.orders.length s.c6) := X.box.cell 6
                      clear X
                      go_wp2_with fail
                      clear c6
                      go_loopw [93] (fun i wr => ∃ (k : Nat) (m : Led) (us : List (Value × Acc)), k ≤ l.orders.length ∧ i = .int .i64 (k : Int) ∧ SP lo hi w wr s l m us) (fun i _ => l.orders.length - (intOf i).toNat)
                      case atStart =>
                        obtain ⟨m, us, X⟩ := XH.out
                        exact ⟨0, m, us, by omega, rfl, X⟩
                      case round =>
                        clear XH
                        obtain ⟨k, m, us, hk, rfl, X⟩ := hrel
                        by_cases hlt : k < l.orders.length
                        · have hkm : k < m.orders.length := by rw [X.len.2.2.2.2.2.1]; exact hlt
                          obtain ⟨g, ha, _, _⟩ := own_block X.own.orders (by omega)
                          have hr := X.own.orders
                          rw [ha] at hr
                          obtain ⟨u0, d0⟩ : ∃ u, wr.cell? ⟨g, k * 5, none⟩ = some u := own_cell hr (k * 5) (by omega)
                          have t0 : wr.frozen? ⟨g, k * 5, none⟩ = false := hr.frozenAt (k * 5)
                          obtain ⟨u1, d1⟩ : ∃ u, wr.cell? ⟨g, k * 5 + 1, none⟩ = some u := own_cell hr (k * 5 + 1) (by omega)
                          have t1 : wr.frozen? ⟨g, k * 5 + 1, none⟩ = false := hr.frozenAt (k * 5 + 1)
                          obtain ⟨u2, d2⟩ : ∃ u, wr.cell? ⟨g, k * 5 + 2, none⟩ = some u := own_cell hr (k * 5 + 2) (by omega)
                          have t2 : wr.frozen? ⟨g, k * 5 + 2, none⟩ = false := hr.frozenAt (k * 5 + 2)
                          obtain ⟨u3, d3⟩ : ∃ u, wr.cell? ⟨g, k * 5 + 3, none⟩ = some u := own_cell hr (k * 5 + 3) (by omega)
                          have t3 : wr.frozen? ⟨g, k * 5 + 3, none⟩ = false := hr.frozenAt (k * 5 + 3)
                          obtain ⟨u4, d4⟩ : ∃ u, wr.cell? ⟨g, k * 5 + 4, none⟩ = some u := own_cell hr (k * 5 + 4) (by omega)
                          have t4 : wr.frozen? ⟨g, k * 5 + 4, none⟩ = false := hr.frozenAt (k * 5 + 4)
                          have cb := X.box.cell 6
                          have cb2 : wr.cell? ⟨w.heap.size, 6, none⟩ = some (.slice s.a6 l.orders.length s.c6) := cb
                          have XN := Lib.hid (X.put_orders hkm ha)
                          have hw : w.heap.size ≠ g := by have h1 := X.big; have h2 := X.top.t6 _ ha; simp only at h2; omega
                          rw [ha] at cb2 ⊢
                          clear cb hr X ha
                          go_wp2_with fail
                          go_roundw
                          case rel => exact ⟨k + 1, _, us, by omega, by go_num, XN.out⟩
                          case measure => simp [intOf]; omega
                        · have XH : Hid (∃ m us, SP lo hi w wr s l m us) := ⟨m, us, X⟩
                          have c7 : wr.cell? ⟨w.heap.size, 7, none⟩ = some (.slice s.a7 l.avail.length s.c7) := X.box.cell 7
                          clear X
                          go_wp2_with fail
                          clear c7
                          go_loopw [105] (fun i wr => ∃ (k : Nat) (m : Led) (us : List (Value × Acc)), k ≤ l.avail.length ∧ i = .int .i64 (k : Int) ∧ SP lo hi w wr s l m us) (fun i _ => l.avail.length - (intOf i).toNat)
                          case atStart =>
                            obtain ⟨m, us, X⟩ := XH.out
                            exact ⟨0, m, us, by omega, rfl, X⟩
                          case round =>
                            clear XH
                            obtain ⟨k, m, us, hk, rfl, X⟩ := hrel
                            by_cases hlt : k < l.avail.length
                            · have hkm : k < m.avail.length := by rw [X.len.2.2.2.2.2.2.1]; exact hlt
                              obtain ⟨g, ha, _, _⟩ := own_block X.own.avail (by omega)
                              have hr := X.own.avail
                              rw [ha] at hr
                              obtain ⟨u0, d0⟩ : ∃ u, wr.cell? ⟨g, k, none⟩ = some u := own_cell hr (k) (by omega)
                              have t0 : wr.frozen? ⟨g, k, none⟩ = false := hr.frozenAt (k)
                              have cb := X.box.cell 7
                              have cb2 : wr.cell? ⟨w.heap.size, 7, none⟩ = some (.slice s.a7 l.avail.length s.c7) := cb
                              have XN := Lib.hid (X.put_avail hkm ha)
                              have hw : w.heap.size ≠ g := by have h1 := X.big; have h2 := X.top.t7 _ ha; simp only at h2; omega
                              rw [ha] at cb2 ⊢
                              clear cb hr X ha
                              go_wp2_with fail
                              go_roundw
                              case rel => exact ⟨k + 1, _, us, by omega, by go_num, XN.out⟩
                              case measure => simp [intOf]; omega
                            · have XH : Hid (∃ m us, SP lo hi w wr s l m us) := ⟨m, us, X⟩
                              have c8 : wr.cell? ⟨w.heap.size, 8, none⟩ = some (.slice s.a8 l.locs.length s.c8) := X.box.cell 8
                              clear X
                              go_wp2_with fail
                              clear c8
                              go_loopw [116] (fun i wr => ∃ (k : Nat) (m : Led) (us : List (Value × Acc)), k ≤ l.locs.length ∧ i = .int .i64 (k : Int) ∧ SP lo hi w wr s l m us) (fun i _ => l.locs.length - (intOf i).toNat)
                              case atStart =>
                                obtain ⟨m, us, X⟩ := XH.out
                                exact ⟨0, m, us, by omega, rfl, X⟩
                              case round =>
                                clear XH
                                obtain ⟨k, m, us, hk, rfl, X⟩ := hrel
                                by_cases hlt : k < l.locs.length
                                · have hkm : k < m.locs.length := by rw [X.len.2.2.2.2.2.2.2]; exact hlt
                                  obtain ⟨g, ha, _, _⟩ := own_block X.own.locs (by omega)
                                  have hr := X.own.locs
                                  rw [ha] at hr
                                  obtain ⟨u0, d0⟩ : ∃ u, wr.cell? ⟨g, k * 3, none⟩ = some u := own_cell hr (k * 3) (by omega)
                                  have t0 : wr.frozen? ⟨g, k * 3, none⟩ = false := hr.frozenAt (k * 3)
                                  obtain ⟨u1, d1⟩ : ∃ u, wr.cell? ⟨g, k * 3 + 1, none⟩ = some u := own_cell hr (k * 3 + 1) (by omega)
                                  have t1 : wr.frozen? ⟨g, k * 3 + 1, none⟩ = false := hr.frozenAt (k * 3 + 1)
                                  obtain ⟨u2, d2⟩ : ∃ u, wr.cell? ⟨g, k * 3 + 2, none⟩ = some u := own_cell hr (k * 3 + 2) (by omega)
                                  have t2 : wr.frozen? ⟨g, k * 3 + 2, none⟩ = false := hr.frozenAt (k * 3 + 2)
                                  have cb := X.box.cell 8
                                  have cb2 : wr.cell? ⟨w.heap.size, 8, none⟩ = some (.slice s.a8 l.locs.length s.c8) := cb
                                  have XN := Lib.hid (X.put_locs hkm ha)
                                  have hw : w.heap.size ≠ g := by have h1 := X.big; have h2 := X.top.t8 _ ha; simp only at h2; omega
                                  rw [ha] at cb2 ⊢
                                  clear cb hr X ha
                                  go_wp2_with fail
                                  go_roundw
                                  case rel => exact ⟨k + 1, _, us, by omega, by go_num, XN.out⟩
                                  case measure => simp [intOf]; omega
                                · have XH : Hid (∃ m us, SP lo hi w wr s l m us) := ⟨m, us, X⟩
                                  have HO := Lib.hid X.only
                                  clear X XH
                                  go_wp2_with fail
                                  go_end0
                                  exact ⟨rfl, HO.out⟩
end Go.Proofs.YtmimhimlgbklpaaDoor.LedW
