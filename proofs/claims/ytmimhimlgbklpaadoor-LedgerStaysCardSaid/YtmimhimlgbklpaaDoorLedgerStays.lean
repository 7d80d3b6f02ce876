/- LedgerStays: the walk, and the step from the law's arguments to it. Written by genstays.py. -/
import Derived.Test.YtmimhimlgbklpaaDoorLedgerPays
set_option linter.unusedSimpArgs false
set_option linter.unusedVariables false
namespace Go.Proofs.YtmimhimlgbklpaaDoor.ledgerStays
open Go.ChangeShapes Go.WideShapes Go.ChangeAt Go.RowKit Go.Proofs.YtmimhimlgbklpaaDoor.Bas Go.Proofs.YtmimhimlgbklpaaDoor.LedM Go.Proofs.YtmimhimlgbklpaaDoor.LedW Go.Proofs.YtmimhimlgbklpaaDoor.ledgerPays

theorem cashAt_out {l : Led} {v c : Nat} (hv : v < l.accts.length) (hc : (l.accts[v]).cash.length ≤ c) : cashAt l v c = 0 := by
  rw [cashAt_at hv, List.getD_eq_getElem?_getD, List.getElem?_eq_none hc]
  rfl
/-- what the law's last loop has made of the paid ledger: the first accounts' cash is the old one's -/
structure Rel (l l3 m : Led) (v q : Nat) : Prop where
  rest : m.day = l.day ∧ m.curs = l.curs ∧ m.unders = l.unders ∧ m.instrs = l.instrs ∧ m.poss = l.poss ∧ m.orders = l.orders ∧ m.avail = l.avail ∧ m.locs = l.locs
  len : m.accts.length = l.accts.length
  acc : ∀ u (h : u < m.accts.length) (h' : u < l.accts.length), (m.accts[u]).parent = (l.accts[u]).parent ∧ (m.accts[u]).flag = (l.accts[u]).flag ∧ (m.accts[u]).last = (l.accts[u]).last ∧ (m.accts[u]).cash.length = (l.accts[u]).cash.length
  cash : ∀ u c, cashAt m u c = if u < v ∨ (u = v ∧ c < q) then cashAt l u c else cashAt l3 u c
theorem set_acc (l : Led) (v c : Nat) (x : Int) (u : Nat) (hu : u < l.accts.length) : ((setCash l v c x).accts[u]'(by rw [setCash_len]; exact hu)).parent = (l.accts[u]).parent ∧ ((setCash l v c x).accts[u]'(by rw [setCash_len]; exact hu)).flag = (l.accts[u]).flag ∧ ((setCash l v c x).accts[u]'(by rw [setCash_len]; exact hu)).last = (l.accts[u]).last ∧ ((setCash l v c x).accts[u]'(by rw [setCash_len]; exact hu)).cash.length = (l.accts[u]).cash.length := by
  simp only [setCash, List.getElem_modify]
  split
  · simp [putCash]
  · exact ⟨rfl, rfl, rfl, rfl⟩
theorem Rel.start {l l3 : Led} {v t c : Nat} {amount x1 y1 : Int} (h : Paid l l3 v t c amount x1 y1) : Rel l l3 l3 0 0 := by
  have hl : l3.accts.length = l.accts.length := by rw [h.l', setCash_len, setCash_len]
  refine ⟨?_, hl, fun u hu hu' => ?_, fun u c => by simp⟩
  · rw [h.l']; exact ⟨rfl, rfl, rfl, rfl, rfl, rfl, rfl, rfl⟩
  · have e1 := set_acc l v c x1 u hu'
    have e2 := set_acc (setCash l v c x1) t c y1 u (by rw [setCash_len]; exact hu')
    simp only [h.l']
    exact ⟨e2.1.trans e1.1, e2.2.1.trans e1.2.1, e2.2.2.1.trans e1.2.2.1, e2.2.2.2.trans e1.2.2.2⟩
theorem Rel.step {l l3 m : Led} {v q : Nat} (h : Rel l l3 m v q) (hv : v < l.accts.length) (hq : q < (l.accts[v]).cash.length) : Rel l l3 (setCash m v q (cashAt l v q)) v (q + 1) := by
  have hvm : v < m.accts.length := by rw [h.len]; exact hv
  have hqm : q < (m.accts[v]).cash.length := by rw [(h.acc v hvm hv).2.2.2]; exact hq
  refine ⟨h.rest, by rw [setCash_len]; exact h.len, fun u hu hu' => ?_, fun u c => ?_⟩
  · have hum : u < m.accts.length := by rw [h.len]; exact hu'
    have e1 := set_acc m v q (cashAt l v q) u hum
    have e2 := h.acc u hum hu'
    exact ⟨e1.1.trans e2.1, e1.2.1.trans e2.2.1, e1.2.2.1.trans e2.2.2.1, e1.2.2.2.trans e2.2.2.2⟩
  · by_cases hc : q = c
    · subst hc
      rw [cashAt_set hvm hqm]
      by_cases hu : v = u
      · subst hu
        rw [if_pos rfl, if_pos (.inr ⟨rfl, by omega⟩)]
      · rw [if_neg hu, h.cash]
        by_cases h1 : u < v
        · rw [if_pos (.inl h1), if_pos (.inl h1)]
        · rw [if_neg (by omega), if_neg (by omega)]
    · rw [cashAt_other hc, h.cash]
      by_cases h1 : u < v ∨ (u = v ∧ c < q)
      · rw [if_pos h1, if_pos (by omega)]
      · rw [if_neg h1, if_neg (by omega)]
theorem Rel.row {l l3 m : Led} {v q : Nat} (h : Rel l l3 m v q) (hv : v < l.accts.length) (hq : q = (l.accts[v]).cash.length) : Rel l l3 m (v + 1) 0 := by
  have hvm : v < m.accts.length := by rw [h.len]; exact hv
  refine ⟨h.rest, h.len, h.acc, fun u c => ?_⟩
  by_cases h1 : u = v
  · subst h1
    rw [if_pos (.inl (by omega))]
    by_cases h2 : c < q
    · rw [h.cash, if_pos (.inr ⟨rfl, h2⟩)]
    · rw [cashAt_out hv (by omega), cashAt_out hvm (by rw [(h.acc u hvm hv).2.2.2]; omega)]
  · rw [h.cash]
    by_cases h2 : u < v
    · rw [if_pos (.inl h2), if_pos (.inl (by omega))]
    · rw [if_neg (by omega), if_neg (by omega)]
theorem Rel.done {l l3 m : Led} {v : Nat} (h : Rel l l3 m v 0) (hv : v = l.accts.length) : m = l := by
  obtain ⟨r0, r1, r2, r3, r5, r6, r7, r8⟩ := h.rest
  have ha : m.accts = l.accts := by
    refine List.ext_getElem h.len fun u hu hu' => ?_
    obtain ⟨e1, e2, e3, e4⟩ := h.acc u hu hu'
    have hc : (m.accts[u]).cash = (l.accts[u]).cash := by
      refine List.ext_getElem e4 fun c hc hc' => ?_
      have := h.cash u c
      rw [if_pos (.inl (by omega)), cashAt_at hu, cashAt_at hu', List.getD_eq_getElem?_getD, List.getD_eq_getElem?_getD, List.getElem?_eq_getElem hc, List.getElem?_eq_getElem hc'] at this
      simpa using this
    generalize m.accts[u] = a at *
    generalize l.accts[u] = b at *
    cases a; cases b
    simp only at e1 e2 e3 hc
    subst e1 e2 e3 hc
    rfl
  cases m; cases l
  simp only at r0 r1 r2 r3 r5 r6 r7 r8 ha
  subst r0 r1 r2 r3 r5 r6 r7 r8 ha
  rfl
theorem led_cash_cell {W : World} {s : Lists} {l : Led} {vs : List (Value × Acc)} (h : LedAt W s l vs) {v : Nat} (hv : v < vs.length) (hvl : v < l.accts.length) {b off n cc : Nat} (hx : vs[v].1 = .slice (some ⟨b, off, none⟩) n cc) {q : Nat} (hq : q < (l.accts[v]).cash.length) : W.cell? ⟨b, off + q, none⟩ = some (.int .i64 (cashAt l v q)) := by
  obtain ⟨a, cap, h1, _, h3⟩ := h.cash _ (List.getElem_mem hv)
  have he : vs[v].2 = l.accts[v] := LedAt.acc h hv hvl
  rw [hx] at h1
  cases h1
  obtain ⟨b', off', e, hc⟩ := h3 q _ (i64s_getD _ q (by rw [he]; exact hq))
  cases e
  rw [hc, he, cashAt_at hvl]
theorem led_slice_cell {W : World} {s : Lists} {l : Led} {vs : List (Value × Acc)} (h : LedAt W s l vs) {b off : Nat} (ha : s.a4 = some ⟨b, off, none⟩) {v : Nat} (hv : v < vs.length) : W.cell? ⟨b, off + v * 4 + 1, none⟩ = some vs[v].1 := by
  obtain ⟨b', off', h1, h2⟩ := rec_at len_acc (by decide) h.accts hv
  rw [ha] at h1
  cases h1
  rw [Nat.add_assoc]
  exact h2 1 _ rfl
theorem own_cash_cell {base : Nat} {W : World} {s : Lists} {l : Led} {us : List (Value × Acc)} (h : LedOwn base W s l us) {v c : Nat} (hv : v < us.length) (hvl : v < l.accts.length) (hc : c < (l.accts[v]).cash.length) {g n cap : Nat} (e : us[v].1 = .slice (some ⟨g, 0, none⟩) n cap) : base ≤ g ∧ W.cell? ⟨g, c, none⟩ = some (.int .i64 (cashAt l v c)) ∧ W.frozen? ⟨g, c, none⟩ = false ∧ ∀ x, LedOwn base (W.setCell ⟨g, c, none⟩ (.int .i64 x)) s (setCash l v c x) (us.modify v (putV c x)) := by
  obtain ⟨g', cap', e1, h1, h2, h3, h4, h5⟩ := h.row hv hvl hc
  rw [e] at e1
  cases e1
  exact ⟨h1, h3, h4, h5⟩
/-- the law's boxes and the paid ledger, as the last loop has made it -/
structure SB (w W : World) (g7 : Nat) (s : Lists) (l : Led) (vs : List (Value × Acc)) (cur amount fr to_ : Int) (s3 : Lists) (m : Led) (us : List (Value × Acc)) : Prop where
  pb : PB w W s l vs cur amount fr to_
  box : Box W g7 37 #[.int .i64 l.day, .slice s3.a1 l.curs.length s3.c1, .slice s3.a2 l.unders.length s3.c2, .slice s3.a3 l.instrs.length s3.c3, .slice s3.a4 l.accts.length s3.c4, .slice s3.a5 l.poss.length s3.c5, .slice s3.a6 l.orders.length s3.c6, .slice s3.a7 l.avail.length s3.c7, .slice s3.a8 l.locs.length s3.c8]
  own : LedOwn (w.heap.size + 3) W s3 m us
section
variable {w A B : World} {g7 : Nat} {s : Lists} {l : Led} {vs : List (Value × Acc)} {cur amount fr to_ : Int} {s3 : Lists} {m : Led} {us : List (Value × Acc)}
theorem SB.keep (h : SB w A g7 s l vs cur amount fr to_ s3 m us) (b : Below A.heap.size A B) : SB w B g7 s l vs cur amount fr to_ s3 m us := ⟨h.pb.keep b, h.box.keep b, h.own.below b⟩
theorem SB.drew (h : SB w A g7 s l vs cur amount fr to_ s3 m us) : SB w A.drew g7 s l vs cur amount fr to_ s3 m us := h.keep ((Below.refl _ _).drew)
theorem SB.c7 (h : SB w A g7 s l vs cur amount fr to_ s3 m us) {g4 : Nat} (h4 : s3.a4 = some ⟨g4, 0, none⟩) : A.cell? ⟨g7, 4, none⟩ = some (.slice (some ⟨g4, 0, none⟩) l.accts.length s3.c4) := h4 ▸ h.box.cell 4
theorem SB.c1 (h : SB w A g7 s l vs cur amount fr to_ s3 m us) {b off : Nat} (ha : s.a4 = some ⟨b, off, none⟩) : A.cell? ⟨w.heap.size, 4, none⟩ = some (.slice (some ⟨b, off, none⟩) l.accts.length s.c4) := ha ▸ h.pb.b1.cell 4
theorem SB.row (h : SB w A g7 s l vs cur amount fr to_ s3 m us) {g4 : Nat} (h4 : s3.a4 = some ⟨g4, 0, none⟩) {v : Nat} (hv : v < us.length) {V : Value} (e : us[v].1 = V) : A.cell? ⟨g4, v * 4 + 1, none⟩ = some V := e ▸ h.own.cashCell hv h4
theorem SB.lrow (h : SB w A g7 s l vs cur amount fr to_ s3 m us) {b off : Nat} (ha : s.a4 = some ⟨b, off, none⟩) {v : Nat} (hv : v < vs.length) {V : Value} (e : vs[v].1 = V) : A.cell? ⟨b, off + v * 4 + 1, none⟩ = some V := e ▸ led_slice_cell h.pb.at_ ha hv
theorem SB.put (h : SB w A g7 s l vs cur amount fr to_ s3 m us) (hat : LedAt w s l vs) {v c : Nat} (hv : v < us.length) (hvl : v < m.accts.length) (hc : c < (m.accts[v]).cash.length) {g n cap : Nat} (e : us[v].1 = .slice (some ⟨g, 0, none⟩) n cap) (x : Int) : SB w (A.setCell ⟨g, c, none⟩ (.int .i64 x)) g7 s l vs cur amount fr to_ s3 (setCash m v c x) (us.modify v (putV c x)) := by
  obtain ⟨h1, _, _, h5⟩ := own_cash_cell h.own hv hvl hc e
  have hn := own_not h.own hv e h.box h.box
  have low := h.pb.low.setCell (p := ⟨g, c, none⟩) (by simp; omega) (.int .i64 x)
  exact ⟨⟨low, hat.keep low, h.pb.b1.far (p := ⟨g, c, none⟩) (by simp; omega) _, h.pb.b2.far (p := ⟨g, c, none⟩) (by simp; omega) _, h.pb.b3.far (p := ⟨g, c, none⟩) (by simp; omega) _⟩, h.box.far (p := ⟨g, c, none⟩) (fun e => hn.1 e.symm) _, h5 x⟩
end
set_option maxHeartbeats 8000000 in
set_option maxRecDepth 100000 in
theorem walk (s : Lists) (l : Led) (vs : List (Value × Acc)) (cur amount fr to_ : Int) (w : World) (hat : LedAt w s l vs) (hok : LedOk w l vs s) (hb : LedBig l) (ia : FixpW.I64 amount) :
    Calls Tryd.prog 7 #[ledV s l, .agg #[.int .i64 cur, .int .i64 amount], .agg #[.int .i64 fr, .int .i64 to_]] w fun e w' => e = .returned (.bool true) ∧ Below w.heap.size w w' := by
  have X := PB.new w s l vs cur amount fr to_ hat
  have D0 := Lib.hid (fun W => lwakes_calls W)
  have DW := Lib.hid (fun W h => wide_calls s l vs W h hb (cash_big hok hat))
  have HF := Lib.hid (fun h => fit_of hok hat h)
  have HAt := Lib.hid hat
  clear hat hok hb
  unfold ledV at DW ⊢
  go_enter Tryd.func7, Tryd.ntmps7
  go_upto_region 1 with fail
  change Code.wp _ _ _ _ (((w.alloc (.cells #[.int .i64 l.day, .slice s.a1 l.curs.length s.c1, .slice s.a2 l.unders.length s.c2, .slice s.a3 l.instrs.length s.c3, .slice s.a4 l.accts.length s.c4, .slice s.a5 l.poss.length s.c5, .slice s.a6 l.orders.length s.c6, .slice s.a7 l.avail.length s.c7, .slice s.a8 l.locs.length s.c8] 37)).alloc (.cells #[.int .i64 cur, .int .i64 amount] 46)).alloc (.cells #[.int .i64 fr, .int .i64 to_] 46))
  generalize ((w.alloc (.cells #[.int .i64 l.day, .slice s.a1 l.curs.length s.c1, .slice s.a2 l.unders.length s.c2, .slice s.a3 l.instrs.length s.c3, .slice s.a4 l.accts.length s.c4, .slice s.a5 l.poss.length s.c5, .slice s.a6 l.orders.length s.c6, .slice s.a7 l.avail.length s.c7, .slice s.a8 l.locs.length s.c8] 37)).alloc (.cells #[.int .i64 cur, .int .i64 amount] 46)).alloc (.cells #[.int .i64 fr, .int .i64 to_] 46) = w0 at *
  have XH := Lib.hid X
  clear X
  cases hw : wideF l with
  | true =>
    rw [hw] at DW
    clear hw HF
    go_wp2_with (first | (go_at_call 8; refine (D0.out _).mono ?_; rintro e w1 ⟨rfl, b1⟩; have X1 := Lib.hid (XH.out.keep b1); have k0 : w1.cell? ⟨w.heap.size, 0, none⟩ = some (.int .i64 l.day) := X1.out.b1.cell 0; have k1 : w1.cell? ⟨w.heap.size, 1, none⟩ = some (.slice s.a1 l.curs.length s.c1) := X1.out.b1.cell 1; have k2 : w1.cell? ⟨w.heap.size, 2, none⟩ = some (.slice s.a2 l.unders.length s.c2) := X1.out.b1.cell 2; have k3 : w1.cell? ⟨w.heap.size, 3, none⟩ = some (.slice s.a3 l.instrs.length s.c3) := X1.out.b1.cell 3; have k4 : w1.cell? ⟨w.heap.size, 4, none⟩ = some (.slice s.a4 l.accts.length s.c4) := X1.out.b1.cell 4; have k5 : w1.cell? ⟨w.heap.size, 5, none⟩ = some (.slice s.a5 l.poss.length s.c5) := X1.out.b1.cell 5; have k6 : w1.cell? ⟨w.heap.size, 6, none⟩ = some (.slice s.a6 l.orders.length s.c6) := X1.out.b1.cell 6; have k7 : w1.cell? ⟨w.heap.size, 7, none⟩ = some (.slice s.a7 l.avail.length s.c7) := X1.out.b1.cell 7; have k8 : w1.cell? ⟨w.heap.size, 8, none⟩ = some (.slice s.a8 l.locs.length s.c8) := X1.out.b1.cell 8) | (go_at_call 10; refine (DW.out _ X1.out.at_).mono ?_; rintro e w2 ⟨rfl, b2⟩))
    go_ret
    exact ⟨rfl, X1.out.low.trans (b2.mono X1.out.low.size)⟩
  | false =>
  rw [hw] at DW
  have hf := HF.out hw
  have HG := Lib.hid (fun W h => lgood_calls s l vs W h hf)
  have HP := Lib.hid (fun W h => pay_calls s l vs cur amount fr to_ W h hf ia)
  have HT := Lib.hid (fun W c h => total_calls s l vs c W h hf)
  have HFit := Lib.hid hf
  unfold ledV at HG HP HT
  clear hw HF hf
  cases hg : goodF l with
  | false =>
    rw [hg] at HG
    clear hg
    go_wp2_with (first | (go_at_call 8; refine (D0.out _).mono ?_; rintro e w1 ⟨rfl, b1⟩; have X1 := Lib.hid (XH.out.keep b1); have k0 : w1.cell? ⟨w.heap.size, 0, none⟩ = some (.int .i64 l.day) := X1.out.b1.cell 0; have k1 : w1.cell? ⟨w.heap.size, 1, none⟩ = some (.slice s.a1 l.curs.length s.c1) := X1.out.b1.cell 1; have k2 : w1.cell? ⟨w.heap.size, 2, none⟩ = some (.slice s.a2 l.unders.length s.c2) := X1.out.b1.cell 2; have k3 : w1.cell? ⟨w.heap.size, 3, none⟩ = some (.slice s.a3 l.instrs.length s.c3) := X1.out.b1.cell 3; have k4 : w1.cell? ⟨w.heap.size, 4, none⟩ = some (.slice s.a4 l.accts.length s.c4) := X1.out.b1.cell 4; have k5 : w1.cell? ⟨w.heap.size, 5, none⟩ = some (.slice s.a5 l.poss.length s.c5) := X1.out.b1.cell 5; have k6 : w1.cell? ⟨w.heap.size, 6, none⟩ = some (.slice s.a6 l.orders.length s.c6) := X1.out.b1.cell 6; have k7 : w1.cell? ⟨w.heap.size, 7, none⟩ = some (.slice s.a7 l.avail.length s.c7) := X1.out.b1.cell 7; have k8 : w1.cell? ⟨w.heap.size, 8, none⟩ = some (.slice s.a8 l.locs.length s.c8) := X1.out.b1.cell 8) | (go_at_call 10; refine (DW.out _ X1.out.at_).mono ?_; rintro e w2 ⟨rfl, b2⟩; have X2 := Lib.hid (X1.out.keep b2); clear k0 k1 k2 k3 k4 k5 k6 k7 k8; have k0 : w2.cell? ⟨w.heap.size, 0, none⟩ = some (.int .i64 l.day) := X2.out.b1.cell 0; have k1 : w2.cell? ⟨w.heap.size, 1, none⟩ = some (.slice s.a1 l.curs.length s.c1) := X2.out.b1.cell 1; have k2 : w2.cell? ⟨w.heap.size, 2, none⟩ = some (.slice s.a2 l.unders.length s.c2) := X2.out.b1.cell 2; have k3 : w2.cell? ⟨w.heap.size, 3, none⟩ = some (.slice s.a3 l.instrs.length s.c3) := X2.out.b1.cell 3; have k4 : w2.cell? ⟨w.heap.size, 4, none⟩ = some (.slice s.a4 l.accts.length s.c4) := X2.out.b1.cell 4; have k5 : w2.cell? ⟨w.heap.size, 5, none⟩ = some (.slice s.a5 l.poss.length s.c5) := X2.out.b1.cell 5; have k6 : w2.cell? ⟨w.heap.size, 6, none⟩ = some (.slice s.a6 l.orders.length s.c6) := X2.out.b1.cell 6; have k7 : w2.cell? ⟨w.heap.size, 7, none⟩ = some (.slice s.a7 l.avail.length s.c7) := X2.out.b1.cell 7; have k8 : w2.cell? ⟨w.heap.size, 8, none⟩ = some (.slice s.a8 l.locs.length s.c8) := X2.out.b1.cell 8) | (go_at_call 20; refine (HG.out _ X2.out.at_).mono ?_; rintro e w3 ⟨rfl, b3⟩))
    go_ret
    exact ⟨rfl, X2.out.low.trans (b3.mono X2.out.low.size)⟩
  | true =>
  rw [hg] at HG
  have HGood := Lib.hid hg
  clear hg
  go_upto_region 5 with (first | (go_at_call 8; refine (D0.out _).mono ?_; rintro e w1 ⟨rfl, b1⟩; have X1 := Lib.hid (XH.out.keep b1); have k0 : w1.cell? ⟨w.heap.size, 0, none⟩ = some (.int .i64 l.day) := X1.out.b1.cell 0; have k1 : w1.cell? ⟨w.heap.size, 1, none⟩ = some (.slice s.a1 l.curs.length s.c1) := X1.out.b1.cell 1; have k2 : w1.cell? ⟨w.heap.size, 2, none⟩ = some (.slice s.a2 l.unders.length s.c2) := X1.out.b1.cell 2; have k3 : w1.cell? ⟨w.heap.size, 3, none⟩ = some (.slice s.a3 l.instrs.length s.c3) := X1.out.b1.cell 3; have k4 : w1.cell? ⟨w.heap.size, 4, none⟩ = some (.slice s.a4 l.accts.length s.c4) := X1.out.b1.cell 4; have k5 : w1.cell? ⟨w.heap.size, 5, none⟩ = some (.slice s.a5 l.poss.length s.c5) := X1.out.b1.cell 5; have k6 : w1.cell? ⟨w.heap.size, 6, none⟩ = some (.slice s.a6 l.orders.length s.c6) := X1.out.b1.cell 6; have k7 : w1.cell? ⟨w.heap.size, 7, none⟩ = some (.slice s.a7 l.avail.length s.c7) := X1.out.b1.cell 7; have k8 : w1.cell? ⟨w.heap.size, 8, none⟩ = some (.slice s.a8 l.locs.length s.c8) := X1.out.b1.cell 8) | (go_at_call 10; refine (DW.out _ X1.out.at_).mono ?_; rintro e w2 ⟨rfl, b2⟩; have X2 := Lib.hid (X1.out.keep b2); clear k0 k1 k2 k3 k4 k5 k6 k7 k8; have k0 : w2.cell? ⟨w.heap.size, 0, none⟩ = some (.int .i64 l.day) := X2.out.b1.cell 0; have k1 : w2.cell? ⟨w.heap.size, 1, none⟩ = some (.slice s.a1 l.curs.length s.c1) := X2.out.b1.cell 1; have k2 : w2.cell? ⟨w.heap.size, 2, none⟩ = some (.slice s.a2 l.unders.length s.c2) := X2.out.b1.cell 2; have k3 : w2.cell? ⟨w.heap.size, 3, none⟩ = some (.slice s.a3 l.instrs.length s.c3) := X2.out.b1.cell 3; have k4 : w2.cell? ⟨w.heap.size, 4, none⟩ = some (.slice s.a4 l.accts.length s.c4) := X2.out.b1.cell 4; have k5 : w2.cell? ⟨w.heap.size, 5, none⟩ = some (.slice s.a5 l.poss.length s.c5) := X2.out.b1.cell 5; have k6 : w2.cell? ⟨w.heap.size, 6, none⟩ = some (.slice s.a6 l.orders.length s.c6) := X2.out.b1.cell 6; have k7 : w2.cell? ⟨w.heap.size, 7, none⟩ = some (.slice s.a7 l.avail.length s.c7) := X2.out.b1.cell 7; have k8 : w2.cell? ⟨w.heap.size, 8, none⟩ = some (.slice s.a8 l.locs.length s.c8) := X2.out.b1.cell 8) | (go_at_call 20; refine (HG.out _ X2.out.at_).mono ?_; rintro e w3 ⟨rfl, b3⟩; have X3 := Lib.hid (X2.out.keep b3)))
  clear k0 k1 k2 k3 k4 k5 k6 k7 k8 XH X1 X2 b1 b2 b3 D0 DW HG
  have k0 : w3.cell? ⟨w.heap.size, 0, none⟩ = some (.int .i64 l.day) := X3.out.b1.cell 0
  have k1 : w3.cell? ⟨w.heap.size, 1, none⟩ = some (.slice s.a1 l.curs.length s.c1) := X3.out.b1.cell 1
  have k2 : w3.cell? ⟨w.heap.size, 2, none⟩ = some (.slice s.a2 l.unders.length s.c2) := X3.out.b1.cell 2
  have k3 : w3.cell? ⟨w.heap.size, 3, none⟩ = some (.slice s.a3 l.instrs.length s.c3) := X3.out.b1.cell 3
  have k4 : w3.cell? ⟨w.heap.size, 4, none⟩ = some (.slice s.a4 l.accts.length s.c4) := X3.out.b1.cell 4
  have k5 : w3.cell? ⟨w.heap.size, 5, none⟩ = some (.slice s.a5 l.poss.length s.c5) := X3.out.b1.cell 5
  have k6 : w3.cell? ⟨w.heap.size, 6, none⟩ = some (.slice s.a6 l.orders.length s.c6) := X3.out.b1.cell 6
  have k7 : w3.cell? ⟨w.heap.size, 7, none⟩ = some (.slice s.a7 l.avail.length s.c7) := X3.out.b1.cell 7
  have k8 : w3.cell? ⟨w.heap.size, 8, none⟩ = some (.slice s.a8 l.locs.length s.c8) := X3.out.b1.cell 8
  have p0 : w3.cell? ⟨w.heap.size + 1, 0, none⟩ = some (.int .i64 cur) := X3.out.b2.cell 0
  have p1 : w3.cell? ⟨w.heap.size + 1, 1, none⟩ = some (.int .i64 amount) := X3.out.b2.cell 1
  have z0 : w3.cell? ⟨w.heap.size + 2, 0, none⟩ = some (.int .i64 fr) := X3.out.b3.cell 0
  have z1 : w3.cell? ⟨w.heap.size + 2, 1, none⟩ = some (.int .i64 to_) := X3.out.b3.cell 1
  go_upto_region 6 with (go_at_call 13; refine (HP.out _ X3.out.at_).mono ?_; rintro e w4 ⟨s3, l3, us3, er, rfl, hp3, own3, b4⟩)
  clear k0 k1 k2 k3 k4 k5 k6 k7 k8 p0 p1 z0 z1
  have hz3 : w.heap.size + 3 ≤ w3.heap.size := X3.out.b3.lt
  have X5 := Lib.hid ((X3.out.keep b4).keep ((Below.refl _ _).alloc (Nat.le_refl _) (.cells #[.int .i64 l3.day, .slice s3.a1 l3.curs.length s3.c1, .slice s3.a2 l3.unders.length s3.c2, .slice s3.a3 l3.instrs.length s3.c3, .slice s3.a4 l3.accts.length s3.c4, .slice s3.a5 l3.poss.length s3.c5, .slice s3.a6 l3.orders.length s3.c6, .slice s3.a7 l3.avail.length s3.c7, .slice s3.a8 l3.locs.length s3.c8] 37)))
  have B5 := Lib.hid (Box.new w4 37 #[.int .i64 l3.day, .slice s3.a1 l3.curs.length s3.c1, .slice s3.a2 l3.unders.length s3.c2, .slice s3.a3 l3.instrs.length s3.c3, .slice s3.a4 l3.accts.length s3.c4, .slice s3.a5 l3.poss.length s3.c5, .slice s3.a6 l3.orders.length s3.c6, .slice s3.a7 l3.avail.length s3.c7, .slice s3.a8 l3.locs.length s3.c8])
  have O5 := Lib.hid ((own3.mono hz3).below ((Below.refl _ _).alloc (Nat.le_refl _) (.cells #[.int .i64 l3.day, .slice s3.a1 l3.curs.length s3.c1, .slice s3.a2 l3.unders.length s3.c2, .slice s3.a3 l3.instrs.length s3.c3, .slice s3.a4 l3.accts.length s3.c4, .slice s3.a5 l3.poss.length s3.c5, .slice s3.a6 l3.orders.length s3.c6, .slice s3.a7 l3.avail.length s3.c7, .slice s3.a8 l3.locs.length s3.c8] 37)))
  have hfit3 : LedFit l3 := pay_fit HFit.out hp3
  clear own3 b4 X3 hz3
  change Code.wp _ _ _ _ (w4.alloc (.cells #[.int .i64 l3.day, .slice s3.a1 l3.curs.length s3.c1, .slice s3.a2 l3.unders.length s3.c2, .slice s3.a3 l3.instrs.length s3.c3, .slice s3.a4 l3.accts.length s3.c4, .slice s3.a5 l3.poss.length s3.c5, .slice s3.a6 l3.orders.length s3.c6, .slice s3.a7 l3.avail.length s3.c7, .slice s3.a8 l3.locs.length s3.c8] 37))
  generalize w4.alloc (.cells #[.int .i64 l3.day, .slice s3.a1 l3.curs.length s3.c1, .slice s3.a2 l3.unders.length s3.c2, .slice s3.a3 l3.instrs.length s3.c3, .slice s3.a4 l3.accts.length s3.c4, .slice s3.a5 l3.poss.length s3.c5, .slice s3.a6 l3.orders.length s3.c6, .slice s3.a7 l3.avail.length s3.c7, .slice s3.a8 l3.locs.length s3.c8] 37) = w5 at *
  generalize w4.heap.size = g7 at *
  rcases payF_paid hp3 with ⟨hne, rfl⟩ | ⟨rfl, hfr, hto, hcur, x1, y1, P⟩
  · have heb : (er != 0) = true := by simpa using hne
    have c4 : w5.cell? ⟨g7, 4, none⟩ = some (.slice s3.a4 0 s3.c4) := B5.out.cell 4
    clear hp3 hne
    go_wp2_with fail
    go_ret
    exact ⟨rfl, X5.out.low⟩
  have HG3 := Lib.hid (fun W h => lgood_calls s3 l3 us3 W h hfit3)
  rw [P.good HGood.out] at HG3
  have HT3 := Lib.hid (fun W c h => total_calls s3 l3 us3 c W h hfit3)
  have HTot := Lib.hid (fun k => P.total k)
  have HCash := Lib.hid (fun u k h => P.cash u k h)
  have HRel := Lib.hid (Rel.start P)
  have q0 := HRel.out.rest.1
  have q1 : l3.curs.length = l.curs.length := by rw [HRel.out.rest.2.1]
  have q2 : l3.unders.length = l.unders.length := by rw [HRel.out.rest.2.2.1]
  have q3 : l3.instrs.length = l.instrs.length := by rw [HRel.out.rest.2.2.2.1]
  have q4 : l3.accts.length = l.accts.length := HRel.out.len
  have q5 : l3.poss.length = l.poss.length := by rw [HRel.out.rest.2.2.2.2.1]
  have q6 : l3.orders.length = l.orders.length := by rw [HRel.out.rest.2.2.2.2.2.1]
  have q7 : l3.avail.length = l.avail.length := by rw [HRel.out.rest.2.2.2.2.2.2.1]
  have q8 : l3.locs.length = l.locs.length := by rw [HRel.out.rest.2.2.2.2.2.2.2]
  unfold ledV at HG3 HT3
  rw [q0, q1, q2, q3, q4, q5, q6, q7, q8] at HG3 HT3 B5
  have n1 := HFit.out.len.1
  have n4 := HFit.out.len.2.2.2.1
  have Y5 := Lib.hid (SB.mk X5.out B5.out O5.out)
  clear q0 q1 q2 q3 q5 q6 q7 q8 P hp3 B5 O5 X5 HP
  have HLen3 := Lib.hid q4
  clear q4
  have j0 : w5.cell? ⟨g7, 0, none⟩ = some (.int .i64 l.day) := Y5.out.box.cell 0
  have j1 : w5.cell? ⟨g7, 1, none⟩ = some (.slice s3.a1 l.curs.length s3.c1) := Y5.out.box.cell 1
  have j2 : w5.cell? ⟨g7, 2, none⟩ = some (.slice s3.a2 l.unders.length s3.c2) := Y5.out.box.cell 2
  have j3 : w5.cell? ⟨g7, 3, none⟩ = some (.slice s3.a3 l.instrs.length s3.c3) := Y5.out.box.cell 3
  have j4 : w5.cell? ⟨g7, 4, none⟩ = some (.slice s3.a4 l.accts.length s3.c4) := Y5.out.box.cell 4
  have j5 : w5.cell? ⟨g7, 5, none⟩ = some (.slice s3.a5 l.poss.length s3.c5) := Y5.out.box.cell 5
  have j6 : w5.cell? ⟨g7, 6, none⟩ = some (.slice s3.a6 l.orders.length s3.c6) := Y5.out.box.cell 6
  have j7 : w5.cell? ⟨g7, 7, none⟩ = some (.slice s3.a7 l.avail.length s3.c7) := Y5.out.box.cell 7
  have j8 : w5.cell? ⟨g7, 8, none⟩ = some (.slice s3.a8 l.locs.length s3.c8) := Y5.out.box.cell 8
  go_upto_region 10 with (go_at_call 20; refine (HG3.out _ Y5.out.own.at_).mono ?_; rintro e w6 ⟨rfl, b6⟩)
  clear j0 j1 j2 j3 j4 j5 j6 j7 j8 HG3
  have Y6 := Lib.hid (Y5.out.keep b6)
  clear Y5 b6
  have c1 : w6.cell? ⟨w.heap.size, 1, none⟩ = some (.slice s.a1 l.curs.length s.c1) := Y6.out.pb.b1.cell 1
  go_wp2_with fail
  clear c1
  go_loopw [50] (fun i wr => ∃ k : Nat, k ≤ l.curs.length ∧ i = .int .i64 (k : Int) ∧ SB w wr g7 s l vs cur amount fr to_ s3 l3 us3) (fun i _ => l.curs.length - (intOf i).toNat)
  case atStart => exact ⟨0, by omega, rfl, Y6.out⟩
  case round =>
    clear Y6
    obtain ⟨k, hk, rfl, Y⟩ := hrel
    by_cases hlt : k < l.curs.length
    · have T1 := Lib.hid (fun W h => HT.out W (k : Int) h)
      have T2 := Lib.hid (fun W h => HT3.out W (k : Int) h)
      have HSum : Hid (∀ x y, totalF (k : Int) 0 l.accts = (x, 0) → totalF (k : Int) 0 l3.accts = (y, 0) → x = y) := fun x y h1 h2 => by
        rw [totalF_sum h1, totalF_sum h2, HTot.out]
      generalize totalF (k : Int) 0 l.accts = t1 at T1 HSum
      generalize totalF (k : Int) 0 l3.accts = t2 at T2 HSum
      obtain ⟨x, g⟩ := t1
      obtain ⟨y, h⟩ := t2
      have YH := Lib.hid Y
      clear Y
      have k0 : wr.cell? ⟨w.heap.size, 0, none⟩ = some (.int .i64 l.day) := YH.out.pb.b1.cell 0
      have k1 : wr.cell? ⟨w.heap.size, 1, none⟩ = some (.slice s.a1 l.curs.length s.c1) := YH.out.pb.b1.cell 1
      have k2 : wr.cell? ⟨w.heap.size, 2, none⟩ = some (.slice s.a2 l.unders.length s.c2) := YH.out.pb.b1.cell 2
      have k3 : wr.cell? ⟨w.heap.size, 3, none⟩ = some (.slice s.a3 l.instrs.length s.c3) := YH.out.pb.b1.cell 3
      have k4 : wr.cell? ⟨w.heap.size, 4, none⟩ = some (.slice s.a4 l.accts.length s.c4) := YH.out.pb.b1.cell 4
      have k5 : wr.cell? ⟨w.heap.size, 5, none⟩ = some (.slice s.a5 l.poss.length s.c5) := YH.out.pb.b1.cell 5
      have k6 : wr.cell? ⟨w.heap.size, 6, none⟩ = some (.slice s.a6 l.orders.length s.c6) := YH.out.pb.b1.cell 6
      have k7 : wr.cell? ⟨w.heap.size, 7, none⟩ = some (.slice s.a7 l.avail.length s.c7) := YH.out.pb.b1.cell 7
      have k8 : wr.cell? ⟨w.heap.size, 8, none⟩ = some (.slice s.a8 l.locs.length s.c8) := YH.out.pb.b1.cell 8
      go_upto_region 14 with (go_at_call 17; refine (T1.out _ YH.out.pb.at_).mono ?_; rintro e w7 ⟨rfl, b7⟩)
      clear k0 k1 k2 k3 k4 k5 k6 k7 k8
      have Y7 := Lib.hid (YH.out.keep b7)
      clear YH b7
      have j0 : w7.cell? ⟨g7, 0, none⟩ = some (.int .i64 l.day) := Y7.out.box.cell 0
      have j1 : w7.cell? ⟨g7, 1, none⟩ = some (.slice s3.a1 l.curs.length s3.c1) := Y7.out.box.cell 1
      have j2 : w7.cell? ⟨g7, 2, none⟩ = some (.slice s3.a2 l.unders.length s3.c2) := Y7.out.box.cell 2
      have j3 : w7.cell? ⟨g7, 3, none⟩ = some (.slice s3.a3 l.instrs.length s3.c3) := Y7.out.box.cell 3
      have j4 : w7.cell? ⟨g7, 4, none⟩ = some (.slice s3.a4 l.accts.length s3.c4) := Y7.out.box.cell 4
      have j5 : w7.cell? ⟨g7, 5, none⟩ = some (.slice s3.a5 l.poss.length s3.c5) := Y7.out.box.cell 5
      have j6 : w7.cell? ⟨g7, 6, none⟩ = some (.slice s3.a6 l.orders.length s3.c6) := Y7.out.box.cell 6
      have j7 : w7.cell? ⟨g7, 7, none⟩ = some (.slice s3.a7 l.avail.length s3.c7) := Y7.out.box.cell 7
      have j8 : w7.cell? ⟨g7, 8, none⟩ = some (.slice s3.a8 l.locs.length s3.c8) := Y7.out.box.cell 8
      go_upto_region 15 with (go_at_call 17; refine (T2.out _ Y7.out.own.at_).mono ?_; rintro e w8 ⟨rfl, b8⟩)
      clear j0 j1 j2 j3 j4 j5 j6 j7 j8
      have Y8 := Lib.hid (Y7.out.keep b8)
      clear Y7 b8 T1 T2
      by_cases hg0 : g = 0
      · subst hg0
        by_cases hh0 : h = 0
        · subst hh0
          obtain rfl := HSum.out x y rfl rfl
          clear HSum
          go_wp2_with fail
          go_roundw
          case rel => exact ⟨k + 1, by omega, by go_num, Y8.out⟩
          case measure => simp [intOf]; omega
        · have hhb : (h == 0) = false := by simpa using hh0
          clear HSum hh0
          go_wp2_with fail
          go_roundw
          case rel => exact ⟨k + 1, by omega, by go_num, Y8.out⟩
          case measure => simp [intOf]; omega
      · have hgb : (g == 0) = false := by simpa using hg0
        clear HSum hg0
        go_wp2_with fail
        go_roundw
        case rel => exact ⟨k + 1, by omega, by go_num, Y8.out⟩
        case measure => simp [intOf]; omega
    · clear HT HT3 HTot
      have YH := Lib.hid Y
      clear Y
      have c7 : wr.cell? ⟨g7, 4, none⟩ = some (.slice s3.a4 l.accts.length s3.c4) := YH.out.box.cell 4
      go_wp2_with fail
      clear c7
      go_loopw [80] (fun i wq => ∃ (v : Nat) (m : Led) (us : List (Value × Acc)), v ≤ l.accts.length ∧ i = .int .i64 (v : Int) ∧ SB w wq g7 s l vs cur amount fr to_ s3 m us ∧ Hid (Rel l l3 m v 0)) (fun i _ => l.accts.length - (intOf i).toNat)
      case atStart => exact ⟨0, l3, us3, by omega, rfl, YH.out, HRel.out⟩
      case round =>
        clear YH HRel
        obtain ⟨v, m, us, hv, rfl, Y, HR⟩ := hrel
        by_cases hvl : v < l.accts.length
        · have hvm : v < m.accts.length := by rw [HR.out.len]; exact hvl
          have hvu : v < us.length := by rw [Y.own.len]; exact hvm
          have hvs : v < vs.length := by rw [LedAt.len HAt.out]; exact hvl
          obtain ⟨g4, h4⟩ := Y.own.addr (by omega)
          obtain ⟨b, off, ha, _⟩ := rec_at len_acc (by decide) HAt.out.accts hvs
          obtain ⟨lc, lcap, hl1, _, _⟩ := HAt.out.cash _ (List.getElem_mem hvs)
          obtain ⟨mc, mcap, hm1, _, _⟩ := Y.own.at_.cash _ (List.getElem_mem hvu)
          have hma : us[v].2 = m.accts[v] := Y.own.acc hvu hvm
          have hla : vs[v].2 = l.accts[v] := LedAt.acc HAt.out hvs hvl
          have hmn : (m.accts[v]).cash.length = (l.accts[v]).cash.length := (HR.out.acc v hvm hvl).2.2.2
          rw [hma, hmn] at hm1
          rw [hla] at hl1
          have hbn := (HFit.out.accts _ (List.getElem_mem hvl)).2.2.2
          have d7 := Y.c7 h4
          have dr := Y.row h4 hvu hm1
          have H4 := Lib.hid h4
          have HA := Lib.hid ha
          have HL1 := Lib.hid hl1
          have HM1 := Lib.hid hm1
          have YH := Lib.hid Y
          clear h4 ha hl1 hm1 hma hla hmn Y
          go_wp2_with fail
          clear d7 dr
          go_loopw [90] (fun i wz => ∃ (q : Nat) (m2 : Led) (us2 : List (Value × Acc)), q ≤ (l.accts[v]).cash.length ∧ i = .int .i64 (q : Int) ∧ SB w wz g7 s l vs cur amount fr to_ s3 m2 us2 ∧ Hid (Rel l l3 m2 v q) ∧ Hid (us2.map (·.1) = us.map (·.1))) (fun i _ => (l.accts[v]).cash.length - (intOf i).toNat)
          case atStart => exact ⟨0, m, us, by omega, rfl, YH.out, HR, rfl⟩
          case round =>
            clear YH HR
            obtain ⟨q, m2, us2, hq, rfl, Y, HR, HM⟩ := hrel
            by_cases hql : q < (l.accts[v]).cash.length
            · have hvm2 : v < m2.accts.length := by rw [HR.out.len]; exact hvl
              have hvu2 : v < us2.length := by rw [Y.own.len]; exact hvm2
              have hfst : us2[v].1 = us[v].1 := by
                have := congrArg (fun l => l[v]?) HM.out
                simpa [hvu2, hvu] using this
              have hqm : q < (m2.accts[v]).cash.length := by rw [(HR.out.acc v hvm2 hvl).2.2.2]; exact hql
              obtain ⟨g, cap, e1, _, _, _, _, _⟩ := Y.own.row hvu2 hvm2 hqm
              have e2 := HM1.out
              rw [← hfst, e1] at e2
              obtain rfl : mc = some ⟨g, 0, none⟩ := by injection e2 with e2 _ _; exact e2.symm
              obtain ⟨cb, coff, rfl⟩ : ∃ cb coff, lc = some ⟨cb, coff, none⟩ := by
                obtain ⟨a, cap', h1, _, h3⟩ := HAt.out.cash _ (List.getElem_mem hvs)
                rw [HL1.out] at h1
                have hla : vs[v].2 = l.accts[v] := LedAt.acc HAt.out hvs hvl
                obtain ⟨b', off', e, _⟩ := h3 q _ (i64s_getD _ q (by rw [hla]; exact hql))
                subst e
                injection h1 with h1
                exact ⟨b', off', h1⟩
              have HE1 : Hid (us2[v].1 = .slice (some ⟨g, 0, none⟩) (l.accts[v]).cash.length mcap) := hfst.trans HM1.out
              have hx : cashAt m2 v q = cashAt l3 v q := by rw [HR.out.cash, if_neg (by omega)]
              have HD := Lib.hid (HCash.out v q)
              rw [← hx] at HD
              have HStep := Lib.hid (HR.out.step hvl hql)
              have HM2 : Hid ((us2.modify v (putV q (cashAt l v q))).map (·.1) = us.map (·.1)) := by unfold Hid; rw [modify_fst]; exact HM.out
              have YH := Lib.hid Y
              have HX := Lib.hid (fun W (Y : SB w W g7 s l vs cur amount fr to_ s3 m2 us2) => (own_cash_cell Y.own hvu2 hvm2 hqm HE1.out).2.1)
              have HXf := Lib.hid (fun W (Y : SB w W g7 s l vs cur amount fr to_ s3 m2 us2) => (own_cash_cell Y.own hvu2 hvm2 hqm HE1.out).2.2.1)
              have HLx := Lib.hid (fun W (Y : SB w W g7 s l vs cur amount fr to_ s3 m2 us2) => led_cash_cell Y.pb.at_ hvs hvl HL1.out hql)
              have HPut := Lib.hid (fun W (Y : SB w W g7 s l vs cur amount fr to_ s3 m2 us2) => Y.put HAt.out hvu2 hvm2 hqm HE1.out (cashAt l v q))
              clear Y e1 e2 hfst hx HR HM
              have hbl : (l.accts[v]).cash.length ≤ 9223372036854775807 := by omega
              generalize cashAt m2 v q = x at *
              generalize cashAt l v q = y at *
              go_upto_region 24 with fail
              by_cases hxy : x = y
              · have hb : (x != y) = false := by simpa using hxy
                clear HD hxy
                have X00 := YH.out.drew
                refine kept_region (fun W => W.cell? ⟨g7, 4, none⟩ = some (.slice (some ⟨g4, 0, none⟩) l.accts.length s3.c4) ∧ W.cell? ⟨g4, v * 4 + 1, none⟩ = some (.slice (some ⟨g, 0, none⟩) (l.accts[v]).cash.length mcap) ∧ W.cell? ⟨g, q, none⟩ = some (.int .i64 x) ∧ W.cell? ⟨w.heap.size, 4, none⟩ = some (.slice (some ⟨b, off, none⟩) l.accts.length s.c4) ∧ W.cell? ⟨b, off + v * 4 + 1, none⟩ = some (.slice (some ⟨cb, coff, none⟩) (l.accts[v]).cash.length lcap) ∧ W.cell? ⟨cb, coff + q, none⟩ = some (.int .i64 y) ∧ W.cell? ⟨w.heap.size + 1, 0, none⟩ = some (.int .i64 cur) ∧ W.cell? ⟨w.heap.size + 2, 0, none⟩ = some (.int .i64 fr) ∧ W.cell? ⟨w.heap.size + 2, 1, none⟩ = some (.int .i64 to_) ∧ SB w W g7 s l vs cur amount fr to_ s3 m2 us2) (by kernel_rfl) (by kernel_rfl) ⟨X00.c7 H4.out, X00.row H4.out hvu2 HE1.out, HX.out _ (X00), X00.c1 HA.out, X00.lrow HA.out hvs HL1.out, HLx.out _ (X00), X00.pb.b2.cell 0, X00.pb.b3.cell 0, X00.pb.b3.cell 1, X00⟩ ?_
                clear X00
                repeat first
                  | (refine' kept_go _ _ (fun W hW => _) _; rotate_left; (focus (go_simp; done)); (refine ⟨?_⟩; obtain ⟨k1, k2, k3, k4, k5, k6, k7, k8, k9, X9⟩ := hW; go_simp; first | done | (with_reducible rfl)); simp only [Act.put, List.setIfInBounds_toArray, List.set_cons_zero, List.set_cons_succ])
                  | (refine kept_skip ?_ ?_; (focus (first | (go_simp; done) | kernel_rfl)); simp only [Act.put, List.setIfInBounds_toArray, List.set_cons_zero, List.set_cons_succ])
                refine kept_end ?_
                rintro wk ⟨k1, k2, k3, k4, k5, k6, k7, k8, k9, X9⟩
                go_wp2_with fail
                clear k1 k2 k3 k4 k5 k6 k7 k8 k9
                refine stage_region 16 (fun W => W.cell? ⟨g7, 4, none⟩ = some (.slice (some ⟨g4, 0, none⟩) l.accts.length s3.c4) ∧ W.cell? ⟨g4, v * 4 + 1, none⟩ = some (.slice (some ⟨g, 0, none⟩) (l.accts[v]).cash.length mcap) ∧ W.cell? ⟨g, q, none⟩ = some (.int .i64 x) ∧ W.cell? ⟨w.heap.size, 4, none⟩ = some (.slice (some ⟨b, off, none⟩) l.accts.length s.c4) ∧ W.cell? ⟨b, off + v * 4 + 1, none⟩ = some (.slice (some ⟨cb, coff, none⟩) (l.accts[v]).cash.length lcap) ∧ W.cell? ⟨cb, coff + q, none⟩ = some (.int .i64 y) ∧ W.cell? ⟨w.heap.size + 1, 0, none⟩ = some (.int .i64 cur) ∧ W.cell? ⟨w.heap.size + 2, 0, none⟩ = some (.int .i64 fr) ∧ W.cell? ⟨w.heap.size + 2, 1, none⟩ = some (.int .i64 to_) ∧ SB w W g7 s l vs cur amount fr to_ s3 m2 us2) (by kernel_rfl) ?_
                have HS := X9.drew
                refine' stage_take (i := 0) _ rfl (by kernel_rfl) (by kernel_rfl) (by kernel_rfl) (by kernel_rfl) (fun _ _ _ h => h) ⟨HS.c7 H4.out, HS.row H4.out hvu2 HE1.out, HX.out _ (HS), HS.c1 HA.out, HS.lrow HA.out hvs HL1.out, HLx.out _ (HS), HS.pb.b2.cell 0, HS.pb.b3.cell 0, HS.pb.b3.cell 1, HS⟩ _ (fun W hW => _) _
                rotate_left
                focus (go_simp; done)
                focus (obtain ⟨k1, k2, k3, k4, k5, k6, k7, k8, k9, X9⟩ := hW; go_simp; first | done | (with_reducible rfl))
                simp only [Act.put, List.setIfInBounds_toArray, List.set_cons_zero, List.set_cons_succ]
                refine' stage_take (i := 1) _ rfl (by kernel_rfl) (by kernel_rfl) (by kernel_rfl) (by kernel_rfl) (fun _ _ _ h => h) ⟨HS.c7 H4.out, HS.row H4.out hvu2 HE1.out, HX.out _ (HS), HS.c1 HA.out, HS.lrow HA.out hvs HL1.out, HLx.out _ (HS), HS.pb.b2.cell 0, HS.pb.b3.cell 0, HS.pb.b3.cell 1, HS⟩ _ (fun W hW => _) _
                rotate_left
                focus (go_simp; done)
                focus (obtain ⟨k1, k2, k3, k4, k5, k6, k7, k8, k9, X9⟩ := hW; go_simp; first | done | (with_reducible rfl))
                simp only [Act.put, List.setIfInBounds_toArray, List.set_cons_zero, List.set_cons_succ]
                refine' stage_take (i := 2) _ rfl (by kernel_rfl) (by kernel_rfl) (by kernel_rfl) (by kernel_rfl) (fun _ _ _ h => h) ⟨HS.c7 H4.out, HS.row H4.out hvu2 HE1.out, HX.out _ (HS), HS.c1 HA.out, HS.lrow HA.out hvs HL1.out, HLx.out _ (HS), HS.pb.b2.cell 0, HS.pb.b3.cell 0, HS.pb.b3.cell 1, HS⟩ _ (fun W hW => _) _
                rotate_left
                focus (go_simp; done)
                focus (obtain ⟨k1, k2, k3, k4, k5, k6, k7, k8, k9, X9⟩ := hW; go_simp; first | done | (with_reducible rfl))
                simp only [Act.put, List.setIfInBounds_toArray, List.set_cons_zero, List.set_cons_succ]
                refine' stage_take (i := 3) _ rfl (by kernel_rfl) (by kernel_rfl) (by kernel_rfl) (by kernel_rfl) (fun _ _ _ h => h) ⟨HS.c7 H4.out, HS.row H4.out hvu2 HE1.out, HX.out _ (HS), HS.c1 HA.out, HS.lrow HA.out hvs HL1.out, HLx.out _ (HS), HS.pb.b2.cell 0, HS.pb.b3.cell 0, HS.pb.b3.cell 1, HS⟩ _ (fun W hW => _) _
                rotate_left
                focus (go_simp; done)
                focus (obtain ⟨k1, k2, k3, k4, k5, k6, k7, k8, k9, X9⟩ := hW; go_simp; first | done | (with_reducible rfl))
                simp only [Act.put, List.setIfInBounds_toArray, List.set_cons_zero, List.set_cons_succ]
                refine' stage_take (i := 4) _ rfl (by kernel_rfl) (by kernel_rfl) (by kernel_rfl) (by kernel_rfl) (fun _ _ _ h => h) ⟨HS.c7 H4.out, HS.row H4.out hvu2 HE1.out, HX.out _ (HS), HS.c1 HA.out, HS.lrow HA.out hvs HL1.out, HLx.out _ (HS), HS.pb.b2.cell 0, HS.pb.b3.cell 0, HS.pb.b3.cell 1, HS⟩ _ (fun W hW => _) _
                rotate_left
                focus (go_simp; done)
                focus (obtain ⟨k1, k2, k3, k4, k5, k6, k7, k8, k9, X9⟩ := hW; go_simp; first | done | (with_reducible rfl))
                simp only [Act.put, List.setIfInBounds_toArray, List.set_cons_zero, List.set_cons_succ]
                refine' stage_take (i := 5) _ rfl (by kernel_rfl) (by kernel_rfl) (by kernel_rfl) (by kernel_rfl) (fun _ _ _ h => h) ⟨HS.c7 H4.out, HS.row H4.out hvu2 HE1.out, HX.out _ (HS), HS.c1 HA.out, HS.lrow HA.out hvs HL1.out, HLx.out _ (HS), HS.pb.b2.cell 0, HS.pb.b3.cell 0, HS.pb.b3.cell 1, HS⟩ _ (fun W hW => _) _
                rotate_left
                focus (go_simp; done)
                focus (obtain ⟨k1, k2, k3, k4, k5, k6, k7, k8, k9, X9⟩ := hW; go_simp; first | done | (with_reducible rfl))
                simp only [Act.put, List.setIfInBounds_toArray, List.set_cons_zero, List.set_cons_succ]
                refine' stage_take (i := 6) _ rfl (by kernel_rfl) (by kernel_rfl) (by kernel_rfl) (by kernel_rfl) (fun _ _ _ h => h) ⟨HS.c7 H4.out, HS.row H4.out hvu2 HE1.out, HX.out _ (HS), HS.c1 HA.out, HS.lrow HA.out hvs HL1.out, HLx.out _ (HS), HS.pb.b2.cell 0, HS.pb.b3.cell 0, HS.pb.b3.cell 1, HS⟩ _ (fun W hW => _) _
                rotate_left
                focus (go_simp; done)
                focus (obtain ⟨k1, k2, k3, k4, k5, k6, k7, k8, k9, X9⟩ := hW; go_simp; first | done | (with_reducible rfl))
                simp only [Act.put, List.setIfInBounds_toArray, List.set_cons_zero, List.set_cons_succ]
                refine' stage_take (i := 7) _ rfl (by kernel_rfl) (by kernel_rfl) (by kernel_rfl) (by kernel_rfl) (fun _ _ _ h => h) ⟨HS.c7 H4.out, HS.row H4.out hvu2 HE1.out, HX.out _ (HS), HS.c1 HA.out, HS.lrow HA.out hvs HL1.out, HLx.out _ (HS), HS.pb.b2.cell 0, HS.pb.b3.cell 0, HS.pb.b3.cell 1, HS⟩ _ (fun W hW => _) _
                rotate_left
                focus (go_simp; done)
                focus (obtain ⟨k1, k2, k3, k4, k5, k6, k7, k8, k9, X9⟩ := hW; go_simp; first | done | (with_reducible rfl))
                simp only [Act.put, List.setIfInBounds_toArray, List.set_cons_zero, List.set_cons_succ]
                refine' stage_take (i := 8) _ rfl (by kernel_rfl) (by kernel_rfl) (by kernel_rfl) (by kernel_rfl) (fun _ _ _ h => h) ⟨HS.c7 H4.out, HS.row H4.out hvu2 HE1.out, HX.out _ (HS), HS.c1 HA.out, HS.lrow HA.out hvs HL1.out, HLx.out _ (HS), HS.pb.b2.cell 0, HS.pb.b3.cell 0, HS.pb.b3.cell 1, HS⟩ _ (fun W hW => _) _
                rotate_left
                focus (go_simp; done)
                focus (obtain ⟨k1, k2, k3, k4, k5, k6, k7, k8, k9, X9⟩ := hW; go_simp; first | done | (with_reducible rfl))
                simp only [Act.put, List.setIfInBounds_toArray, List.set_cons_zero, List.set_cons_succ]
                refine' stage_take (i := 9) _ rfl (by kernel_rfl) (by kernel_rfl) (by kernel_rfl) (by kernel_rfl) (fun _ _ _ h => h) ⟨HS.c7 H4.out, HS.row H4.out hvu2 HE1.out, HX.out _ (HS), HS.c1 HA.out, HS.lrow HA.out hvs HL1.out, HLx.out _ (HS), HS.pb.b2.cell 0, HS.pb.b3.cell 0, HS.pb.b3.cell 1, HS⟩ _ (fun W hW => _) _
                rotate_left
                focus (go_simp; done)
                focus (obtain ⟨k1, k2, k3, k4, k5, k6, k7, k8, k9, X9⟩ := hW; go_simp; first | done | (with_reducible rfl))
                simp only [Act.put, List.setIfInBounds_toArray, List.set_cons_zero, List.set_cons_succ]
                refine' stage_take (i := 10) _ rfl (by kernel_rfl) (by kernel_rfl) (by kernel_rfl) (by kernel_rfl) (fun _ _ _ h => h) ⟨HS.c7 H4.out, HS.row H4.out hvu2 HE1.out, HX.out _ (HS), HS.c1 HA.out, HS.lrow HA.out hvs HL1.out, HLx.out _ (HS), HS.pb.b2.cell 0, HS.pb.b3.cell 0, HS.pb.b3.cell 1, HS⟩ _ (fun W hW => _) _
                rotate_left
                focus (go_simp; done)
                focus (obtain ⟨k1, k2, k3, k4, k5, k6, k7, k8, k9, X9⟩ := hW; go_simp; first | done | (with_reducible rfl))
                simp only [Act.put, List.setIfInBounds_toArray, List.set_cons_zero, List.set_cons_succ]
                refine' stage_take (i := 11) _ rfl (by kernel_rfl) (by kernel_rfl) (by kernel_rfl) (by kernel_rfl) (fun _ _ _ h => h) ⟨HS.c7 H4.out, HS.row H4.out hvu2 HE1.out, HX.out _ (HS), HS.c1 HA.out, HS.lrow HA.out hvs HL1.out, HLx.out _ (HS), HS.pb.b2.cell 0, HS.pb.b3.cell 0, HS.pb.b3.cell 1, HS⟩ _ (fun W hW => _) _
                rotate_left
                focus (go_simp; done)
                focus (obtain ⟨k1, k2, k3, k4, k5, k6, k7, k8, k9, X9⟩ := hW; go_simp; first | done | (with_reducible rfl))
                simp only [Act.put, List.setIfInBounds_toArray, List.set_cons_zero, List.set_cons_succ]
                refine' stage_take (i := 12) _ rfl (by kernel_rfl) (by kernel_rfl) (by kernel_rfl) (by kernel_rfl) (fun _ _ _ h => h) ⟨HS.c7 H4.out, HS.row H4.out hvu2 HE1.out, HX.out _ (HS), HS.c1 HA.out, HS.lrow HA.out hvs HL1.out, HLx.out _ (HS), HS.pb.b2.cell 0, HS.pb.b3.cell 0, HS.pb.b3.cell 1, HS⟩ _ (fun W hW => _) _
                rotate_left
                focus (go_simp; done)
                focus (obtain ⟨k1, k2, k3, k4, k5, k6, k7, k8, k9, X9⟩ := hW; go_simp; first | done | (with_reducible rfl))
                simp only [Act.put, List.setIfInBounds_toArray, List.set_cons_zero, List.set_cons_succ]
                refine' stage_take (i := 13) _ rfl (by kernel_rfl) (by kernel_rfl) (by kernel_rfl) (by kernel_rfl) (fun _ _ _ h => h) ⟨HS.c7 H4.out, HS.row H4.out hvu2 HE1.out, HX.out _ (HS), HS.c1 HA.out, HS.lrow HA.out hvs HL1.out, HLx.out _ (HS), HS.pb.b2.cell 0, HS.pb.b3.cell 0, HS.pb.b3.cell 1, HS⟩ _ (fun W hW => _) _
                rotate_left
                focus (go_simp; done)
                focus (obtain ⟨k1, k2, k3, k4, k5, k6, k7, k8, k9, X9⟩ := hW; go_simp; first | done | (with_reducible rfl))
                simp only [Act.put, List.setIfInBounds_toArray, List.set_cons_zero, List.set_cons_succ]
                refine' stage_take (i := 14) _ rfl (by kernel_rfl) (by kernel_rfl) (by kernel_rfl) (by kernel_rfl) (fun _ _ _ h => h) ⟨HS.c7 H4.out, HS.row H4.out hvu2 HE1.out, HX.out _ (HS), HS.c1 HA.out, HS.lrow HA.out hvs HL1.out, HLx.out _ (HS), HS.pb.b2.cell 0, HS.pb.b3.cell 0, HS.pb.b3.cell 1, HS⟩ _ (fun W hW => _) _
                rotate_left
                focus (go_simp; done)
                focus (obtain ⟨k1, k2, k3, k4, k5, k6, k7, k8, k9, X9⟩ := hW; go_simp; first | done | (with_reducible rfl))
                simp only [Act.put, List.setIfInBounds_toArray, List.set_cons_zero, List.set_cons_succ]
                refine' stage_take (i := 15) _ rfl (by kernel_rfl) (by kernel_rfl) (by kernel_rfl) (by kernel_rfl) (fun _ _ _ h => h) ⟨HS.c7 H4.out, HS.row H4.out hvu2 HE1.out, HX.out _ (HS), HS.c1 HA.out, HS.lrow HA.out hvs HL1.out, HLx.out _ (HS), HS.pb.b2.cell 0, HS.pb.b3.cell 0, HS.pb.b3.cell 1, HS⟩ _ (fun W hW => _) _
                rotate_left
                focus (go_simp; done)
                focus (obtain ⟨k1, k2, k3, k4, k5, k6, k7, k8, k9, X9⟩ := hW; go_simp; first | done | (with_reducible rfl))
                simp only [Act.put, List.setIfInBounds_toArray, List.set_cons_zero, List.set_cons_succ]
                refine stage_only (i := 16) rfl (by kernel_rfl) ?_ (fun K hK => ?_)
                focus (go_simp; done)
                go_simp
                refine hK.out _ _ (fun h => absurd h (by decide)) ?_
                clear hK K
                try simp only [Act.put, List.setIfInBounds_toArray, List.set_cons_zero, List.set_cons_succ]
                refine stage_only (i := 17) rfl (by kernel_rfl) ?_ (fun K hK => ?_)
                focus (go_simp; done)
                have ck : _ = some _ := HX.out _ HS
                have fk := HXf.out _ HS
                go_simp
                clear ck fk
                refine hK.out _ _ (fun h => absurd h (by decide)) ?_
                clear hK K
                try simp only [Act.put, List.setIfInBounds_toArray, List.set_cons_zero, List.set_cons_succ]
                refine stage_end (by kernel_rfl) ?_
                have YN := Lib.hid (HPut.out _ HS)
                clear HS X9
                go_wp2_with fail
                go_roundw
                case rel => exact ⟨q + 1, _, _, by omega, by go_num, YN.out, HStep, HM2⟩
                case measure => simp [intOf]; omega
              · obtain ⟨hqc, hvv⟩ := HD.out hxy
                have hb : (x != y) = true := by simpa using hxy
                have hb2 : ((q : Int) != cur) = false := by simp; omega
                clear HD hxy hqc
                by_cases hvf : v = fr.toNat
                · have hb3 : ((v : Int) != fr) = false := by simp; omega
                  clear hvf hvv
                  have X00 := YH.out.drew
                  refine kept_region (fun W => W.cell? ⟨g7, 4, none⟩ = some (.slice (some ⟨g4, 0, none⟩) l.accts.length s3.c4) ∧ W.cell? ⟨g4, v * 4 + 1, none⟩ = some (.slice (some ⟨g, 0, none⟩) (l.accts[v]).cash.length mcap) ∧ W.cell? ⟨g, q, none⟩ = some (.int .i64 x) ∧ W.cell? ⟨w.heap.size, 4, none⟩ = some (.slice (some ⟨b, off, none⟩) l.accts.length s.c4) ∧ W.cell? ⟨b, off + v * 4 + 1, none⟩ = some (.slice (some ⟨cb, coff, none⟩) (l.accts[v]).cash.length lcap) ∧ W.cell? ⟨cb, coff + q, none⟩ = some (.int .i64 y) ∧ W.cell? ⟨w.heap.size + 1, 0, none⟩ = some (.int .i64 cur) ∧ W.cell? ⟨w.heap.size + 2, 0, none⟩ = some (.int .i64 fr) ∧ W.cell? ⟨w.heap.size + 2, 1, none⟩ = some (.int .i64 to_) ∧ SB w W g7 s l vs cur amount fr to_ s3 m2 us2) (by kernel_rfl) (by kernel_rfl) ⟨X00.c7 H4.out, X00.row H4.out hvu2 HE1.out, HX.out _ (X00), X00.c1 HA.out, X00.lrow HA.out hvs HL1.out, HLx.out _ (X00), X00.pb.b2.cell 0, X00.pb.b3.cell 0, X00.pb.b3.cell 1, X00⟩ ?_
                  clear X00
                  repeat first
                    | (refine' kept_go _ _ (fun W hW => _) _; rotate_left; (focus (go_simp; done)); (refine ⟨?_⟩; obtain ⟨k1, k2, k3, k4, k5, k6, k7, k8, k9, X9⟩ := hW; go_simp; first | done | (with_reducible rfl)); simp only [Act.put, List.setIfInBounds_toArray, List.set_cons_zero, List.set_cons_succ])
                    | (refine kept_skip ?_ ?_; (focus (first | (go_simp; done) | kernel_rfl)); simp only [Act.put, List.setIfInBounds_toArray, List.set_cons_zero, List.set_cons_succ])
                  refine kept_end ?_
                  rintro wk ⟨k1, k2, k3, k4, k5, k6, k7, k8, k9, X9⟩
                  go_wp2_with fail
                  clear k1 k2 k3 k4 k5 k6 k7 k8 k9
                  refine stage_region 16 (fun W => W.cell? ⟨g7, 4, none⟩ = some (.slice (some ⟨g4, 0, none⟩) l.accts.length s3.c4) ∧ W.cell? ⟨g4, v * 4 + 1, none⟩ = some (.slice (some ⟨g, 0, none⟩) (l.accts[v]).cash.length mcap) ∧ W.cell? ⟨g, q, none⟩ = some (.int .i64 x) ∧ W.cell? ⟨w.heap.size, 4, none⟩ = some (.slice (some ⟨b, off, none⟩) l.accts.length s.c4) ∧ W.cell? ⟨b, off + v * 4 + 1, none⟩ = some (.slice (some ⟨cb, coff, none⟩) (l.accts[v]).cash.length lcap) ∧ W.cell? ⟨cb, coff + q, none⟩ = some (.int .i64 y) ∧ W.cell? ⟨w.heap.size + 1, 0, none⟩ = some (.int .i64 cur) ∧ W.cell? ⟨w.heap.size + 2, 0, none⟩ = some (.int .i64 fr) ∧ W.cell? ⟨w.heap.size + 2, 1, none⟩ = some (.int .i64 to_) ∧ SB w W g7 s l vs cur amount fr to_ s3 m2 us2) (by kernel_rfl) ?_
                  have HS := X9.drew
                  refine' stage_take (i := 0) _ rfl (by kernel_rfl) (by kernel_rfl) (by kernel_rfl) (by kernel_rfl) (fun _ _ _ h => h) ⟨HS.c7 H4.out, HS.row H4.out hvu2 HE1.out, HX.out _ (HS), HS.c1 HA.out, HS.lrow HA.out hvs HL1.out, HLx.out _ (HS), HS.pb.b2.cell 0, HS.pb.b3.cell 0, HS.pb.b3.cell 1, HS⟩ _ (fun W hW => _) _
                  rotate_left
                  focus (go_simp; done)
                  focus (obtain ⟨k1, k2, k3, k4, k5, k6, k7, k8, k9, X9⟩ := hW; go_simp; first | done | (with_reducible rfl))
                  simp only [Act.put, List.setIfInBounds_toArray, List.set_cons_zero, List.set_cons_succ]
                  refine' stage_take (i := 1) _ rfl (by kernel_rfl) (by kernel_rfl) (by kernel_rfl) (by kernel_rfl) (fun _ _ _ h => h) ⟨HS.c7 H4.out, HS.row H4.out hvu2 HE1.out, HX.out _ (HS), HS.c1 HA.out, HS.lrow HA.out hvs HL1.out, HLx.out _ (HS), HS.pb.b2.cell 0, HS.pb.b3.cell 0, HS.pb.b3.cell 1, HS⟩ _ (fun W hW => _) _
                  rotate_left
                  focus (go_simp; done)
                  focus (obtain ⟨k1, k2, k3, k4, k5, k6, k7, k8, k9, X9⟩ := hW; go_simp; first | done | (with_reducible rfl))
                  simp only [Act.put, List.setIfInBounds_toArray, List.set_cons_zero, List.set_cons_succ]
                  refine' stage_take (i := 2) _ rfl (by kernel_rfl) (by kernel_rfl) (by kernel_rfl) (by kernel_rfl) (fun _ _ _ h => h) ⟨HS.c7 H4.out, HS.row H4.out hvu2 HE1.out, HX.out _ (HS), HS.c1 HA.out, HS.lrow HA.out hvs HL1.out, HLx.out _ (HS), HS.pb.b2.cell 0, HS.pb.b3.cell 0, HS.pb.b3.cell 1, HS⟩ _ (fun W hW => _) _
                  rotate_left
                  focus (go_simp; done)
                  focus (obtain ⟨k1, k2, k3, k4, k5, k6, k7, k8, k9, X9⟩ := hW; go_simp; first | done | (with_reducible rfl))
                  simp only [Act.put, List.setIfInBounds_toArray, List.set_cons_zero, List.set_cons_succ]
                  refine' stage_take (i := 3) _ rfl (by kernel_rfl) (by kernel_rfl) (by kernel_rfl) (by kernel_rfl) (fun _ _ _ h => h) ⟨HS.c7 H4.out, HS.row H4.out hvu2 HE1.out, HX.out _ (HS), HS.c1 HA.out, HS.lrow HA.out hvs HL1.out, HLx.out _ (HS), HS.pb.b2.cell 0, HS.pb.b3.cell 0, HS.pb.b3.cell 1, HS⟩ _ (fun W hW => _) _
                  rotate_left
                  focus (go_simp; done)
                  focus (obtain ⟨k1, k2, k3, k4, k5, k6, k7, k8, k9, X9⟩ := hW; go_simp; first | done | (with_reducible rfl))
                  simp only [Act.put, List.setIfInBounds_toArray, List.set_cons_zero, List.set_cons_succ]
                  refine' stage_take (i := 4) _ rfl (by kernel_rfl) (by kernel_rfl) (by kernel_rfl) (by kernel_rfl) (fun _ _ _ h => h) ⟨HS.c7 H4.out, HS.row H4.out hvu2 HE1.out, HX.out _ (HS), HS.c1 HA.out, HS.lrow HA.out hvs HL1.out, HLx.out _ (HS), HS.pb.b2.cell 0, HS.pb.b3.cell 0, HS.pb.b3.cell 1, HS⟩ _ (fun W hW => _) _
                  rotate_left
                  focus (go_simp; done)
                  focus (obtain ⟨k1, k2, k3, k4, k5, k6, k7, k8, k9, X9⟩ := hW; go_simp; first | done | (with_reducible rfl))
                  simp only [Act.put, List.setIfInBounds_toArray, List.set_cons_zero, List.set_cons_succ]
                  refine' stage_take (i := 5) _ rfl (by kernel_rfl) (by kernel_rfl) (by kernel_rfl) (by kernel_rfl) (fun _ _ _ h => h) ⟨HS.c7 H4.out, HS.row H4.out hvu2 HE1.out, HX.out _ (HS), HS.c1 HA.out, HS.lrow HA.out hvs HL1.out, HLx.out _ (HS), HS.pb.b2.cell 0, HS.pb.b3.cell 0, HS.pb.b3.cell 1, HS⟩ _ (fun W hW => _) _
                  rotate_left
                  focus (go_simp; done)
                  focus (obtain ⟨k1, k2, k3, k4, k5, k6, k7, k8, k9, X9⟩ := hW; go_simp; first | done | (with_reducible rfl))
                  simp only [Act.put, List.setIfInBounds_toArray, List.set_cons_zero, List.set_cons_succ]
                  refine' stage_take (i := 6) _ rfl (by kernel_rfl) (by kernel_rfl) (by kernel_rfl) (by kernel_rfl) (fun _ _ _ h => h) ⟨HS.c7 H4.out, HS.row H4.out hvu2 HE1.out, HX.out _ (HS), HS.c1 HA.out, HS.lrow HA.out hvs HL1.out, HLx.out _ (HS), HS.pb.b2.cell 0, HS.pb.b3.cell 0, HS.pb.b3.cell 1, HS⟩ _ (fun W hW => _) _
                  rotate_left
                  focus (go_simp; done)
                  focus (obtain ⟨k1, k2, k3, k4, k5, k6, k7, k8, k9, X9⟩ := hW; go_simp; first | done | (with_reducible rfl))
                  simp only [Act.put, List.setIfInBounds_toArray, List.set_cons_zero, List.set_cons_succ]
                  refine' stage_take (i := 7) _ rfl (by kernel_rfl) (by kernel_rfl) (by kernel_rfl) (by kernel_rfl) (fun _ _ _ h => h) ⟨HS.c7 H4.out, HS.row H4.out hvu2 HE1.out, HX.out _ (HS), HS.c1 HA.out, HS.lrow HA.out hvs HL1.out, HLx.out _ (HS), HS.pb.b2.cell 0, HS.pb.b3.cell 0, HS.pb.b3.cell 1, HS⟩ _ (fun W hW => _) _
                  rotate_left
                  focus (go_simp; done)
                  focus (obtain ⟨k1, k2, k3, k4, k5, k6, k7, k8, k9, X9⟩ := hW; go_simp; first | done | (with_reducible rfl))
                  simp only [Act.put, List.setIfInBounds_toArray, List.set_cons_zero, List.set_cons_succ]
                  refine' stage_take (i := 8) _ rfl (by kernel_rfl) (by kernel_rfl) (by kernel_rfl) (by kernel_rfl) (fun _ _ _ h => h) ⟨HS.c7 H4.out, HS.row H4.out hvu2 HE1.out, HX.out _ (HS), HS.c1 HA.out, HS.lrow HA.out hvs HL1.out, HLx.out _ (HS), HS.pb.b2.cell 0, HS.pb.b3.cell 0, HS.pb.b3.cell 1, HS⟩ _ (fun W hW => _) _
                  rotate_left
                  focus (go_simp; done)
                  focus (obtain ⟨k1, k2, k3, k4, k5, k6, k7, k8, k9, X9⟩ := hW; go_simp; first | done | (with_reducible rfl))
                  simp only [Act.put, List.setIfInBounds_toArray, List.set_cons_zero, List.set_cons_succ]
                  refine' stage_take (i := 9) _ rfl (by kernel_rfl) (by kernel_rfl) (by kernel_rfl) (by kernel_rfl) (fun _ _ _ h => h) ⟨HS.c7 H4.out, HS.row H4.out hvu2 HE1.out, HX.out _ (HS), HS.c1 HA.out, HS.lrow HA.out hvs HL1.out, HLx.out _ (HS), HS.pb.b2.cell 0, HS.pb.b3.cell 0, HS.pb.b3.cell 1, HS⟩ _ (fun W hW => _) _
                  rotate_left
                  focus (go_simp; done)
                  focus (obtain ⟨k1, k2, k3, k4, k5, k6, k7, k8, k9, X9⟩ := hW; go_simp; first | done | (with_reducible rfl))
                  simp only [Act.put, List.setIfInBounds_toArray, List.set_cons_zero, List.set_cons_succ]
                  refine' stage_take (i := 10) _ rfl (by kernel_rfl) (by kernel_rfl) (by kernel_rfl) (by kernel_rfl) (fun _ _ _ h => h) ⟨HS.c7 H4.out, HS.row H4.out hvu2 HE1.out, HX.out _ (HS), HS.c1 HA.out, HS.lrow HA.out hvs HL1.out, HLx.out _ (HS), HS.pb.b2.cell 0, HS.pb.b3.cell 0, HS.pb.b3.cell 1, HS⟩ _ (fun W hW => _) _
                  rotate_left
                  focus (go_simp; done)
                  focus (obtain ⟨k1, k2, k3, k4, k5, k6, k7, k8, k9, X9⟩ := hW; go_simp; first | done | (with_reducible rfl))
                  simp only [Act.put, List.setIfInBounds_toArray, List.set_cons_zero, List.set_cons_succ]
                  refine' stage_take (i := 11) _ rfl (by kernel_rfl) (by kernel_rfl) (by kernel_rfl) (by kernel_rfl) (fun _ _ _ h => h) ⟨HS.c7 H4.out, HS.row H4.out hvu2 HE1.out, HX.out _ (HS), HS.c1 HA.out, HS.lrow HA.out hvs HL1.out, HLx.out _ (HS), HS.pb.b2.cell 0, HS.pb.b3.cell 0, HS.pb.b3.cell 1, HS⟩ _ (fun W hW => _) _
                  rotate_left
                  focus (go_simp; done)
                  focus (obtain ⟨k1, k2, k3, k4, k5, k6, k7, k8, k9, X9⟩ := hW; go_simp; first | done | (with_reducible rfl))
                  simp only [Act.put, List.setIfInBounds_toArray, List.set_cons_zero, List.set_cons_succ]
                  refine' stage_take (i := 12) _ rfl (by kernel_rfl) (by kernel_rfl) (by kernel_rfl) (by kernel_rfl) (fun _ _ _ h => h) ⟨HS.c7 H4.out, HS.row H4.out hvu2 HE1.out, HX.out _ (HS), HS.c1 HA.out, HS.lrow HA.out hvs HL1.out, HLx.out _ (HS), HS.pb.b2.cell 0, HS.pb.b3.cell 0, HS.pb.b3.cell 1, HS⟩ _ (fun W hW => _) _
                  rotate_left
                  focus (go_simp; done)
                  focus (obtain ⟨k1, k2, k3, k4, k5, k6, k7, k8, k9, X9⟩ := hW; go_simp; first | done | (with_reducible rfl))
                  simp only [Act.put, List.setIfInBounds_toArray, List.set_cons_zero, List.set_cons_succ]
                  refine' stage_take (i := 13) _ rfl (by kernel_rfl) (by kernel_rfl) (by kernel_rfl) (by kernel_rfl) (fun _ _ _ h => h) ⟨HS.c7 H4.out, HS.row H4.out hvu2 HE1.out, HX.out _ (HS), HS.c1 HA.out, HS.lrow HA.out hvs HL1.out, HLx.out _ (HS), HS.pb.b2.cell 0, HS.pb.b3.cell 0, HS.pb.b3.cell 1, HS⟩ _ (fun W hW => _) _
                  rotate_left
                  focus (go_simp; done)
                  focus (obtain ⟨k1, k2, k3, k4, k5, k6, k7, k8, k9, X9⟩ := hW; go_simp; first | done | (with_reducible rfl))
                  simp only [Act.put, List.setIfInBounds_toArray, List.set_cons_zero, List.set_cons_succ]
                  refine' stage_take (i := 14) _ rfl (by kernel_rfl) (by kernel_rfl) (by kernel_rfl) (by kernel_rfl) (fun _ _ _ h => h) ⟨HS.c7 H4.out, HS.row H4.out hvu2 HE1.out, HX.out _ (HS), HS.c1 HA.out, HS.lrow HA.out hvs HL1.out, HLx.out _ (HS), HS.pb.b2.cell 0, HS.pb.b3.cell 0, HS.pb.b3.cell 1, HS⟩ _ (fun W hW => _) _
                  rotate_left
                  focus (go_simp; done)
                  focus (obtain ⟨k1, k2, k3, k4, k5, k6, k7, k8, k9, X9⟩ := hW; go_simp; first | done | (with_reducible rfl))
                  simp only [Act.put, List.setIfInBounds_toArray, List.set_cons_zero, List.set_cons_succ]
                  refine' stage_take (i := 15) _ rfl (by kernel_rfl) (by kernel_rfl) (by kernel_rfl) (by kernel_rfl) (fun _ _ _ h => h) ⟨HS.c7 H4.out, HS.row H4.out hvu2 HE1.out, HX.out _ (HS), HS.c1 HA.out, HS.lrow HA.out hvs HL1.out, HLx.out _ (HS), HS.pb.b2.cell 0, HS.pb.b3.cell 0, HS.pb.b3.cell 1, HS⟩ _ (fun W hW => _) _
                  rotate_left
                  focus (go_simp; done)
                  focus (obtain ⟨k1, k2, k3, k4, k5, k6, k7, k8, k9, X9⟩ := hW; go_simp; first | done | (with_reducible rfl))
                  simp only [Act.put, List.setIfInBounds_toArray, List.set_cons_zero, List.set_cons_succ]
                  refine stage_only (i := 16) rfl (by kernel_rfl) ?_ (fun K hK => ?_)
                  focus (go_simp; done)
                  go_simp
                  refine hK.out _ _ (fun h => absurd h (by decide)) ?_
                  clear hK K
                  try simp only [Act.put, List.setIfInBounds_toArray, List.set_cons_zero, List.set_cons_succ]
                  refine stage_only (i := 17) rfl (by kernel_rfl) ?_ (fun K hK => ?_)
                  focus (go_simp; done)
                  have ck : _ = some _ := HX.out _ HS
                  have fk := HXf.out _ HS
                  go_simp
                  clear ck fk
                  refine hK.out _ _ (fun h => absurd h (by decide)) ?_
                  clear hK K
                  try simp only [Act.put, List.setIfInBounds_toArray, List.set_cons_zero, List.set_cons_succ]
                  refine stage_end (by kernel_rfl) ?_
                  have YN := Lib.hid (HPut.out _ HS)
                  clear HS X9
                  go_wp2_with fail
                  go_roundw
                  case rel => exact ⟨q + 1, _, _, by omega, by go_num, YN.out, HStep, HM2⟩
                  case measure => simp [intOf]; omega
                · have hb3 : ((v : Int) != fr) = true := by simp; omega
                  have hb4 : ((v : Int) != to_) = false := by simp; omega
                  clear hvf hvv
                  have X00 := YH.out.drew
                  refine kept_region (fun W => W.cell? ⟨g7, 4, none⟩ = some (.slice (some ⟨g4, 0, none⟩) l.accts.length s3.c4) ∧ W.cell? ⟨g4, v * 4 + 1, none⟩ = some (.slice (some ⟨g, 0, none⟩) (l.accts[v]).cash.length mcap) ∧ W.cell? ⟨g, q, none⟩ = some (.int .i64 x) ∧ W.cell? ⟨w.heap.size, 4, none⟩ = some (.slice (some ⟨b, off, none⟩) l.accts.length s.c4) ∧ W.cell? ⟨b, off + v * 4 + 1, none⟩ = some (.slice (some ⟨cb, coff, none⟩) (l.accts[v]).cash.length lcap) ∧ W.cell? ⟨cb, coff + q, none⟩ = some (.int .i64 y) ∧ W.cell? ⟨w.heap.size + 1, 0, none⟩ = some (.int .i64 cur) ∧ W.cell? ⟨w.heap.size + 2, 0, none⟩ = some (.int .i64 fr) ∧ W.cell? ⟨w.heap.size + 2, 1, none⟩ = some (.int .i64 to_) ∧ SB w W g7 s l vs cur amount fr to_ s3 m2 us2) (by kernel_rfl) (by kernel_rfl) ⟨X00.c7 H4.out, X00.row H4.out hvu2 HE1.out, HX.out _ (X00), X00.c1 HA.out, X00.lrow HA.out hvs HL1.out, HLx.out _ (X00), X00.pb.b2.cell 0, X00.pb.b3.cell 0, X00.pb.b3.cell 1, X00⟩ ?_
                  clear X00
                  repeat first
                    | (refine' kept_go _ _ (fun W hW => _) _; rotate_left; (focus (go_simp; done)); (refine ⟨?_⟩; obtain ⟨k1, k2, k3, k4, k5, k6, k7, k8, k9, X9⟩ := hW; go_simp; first | done | (with_reducible rfl)); simp only [Act.put, List.setIfInBounds_toArray, List.set_cons_zero, List.set_cons_succ])
                    | (refine kept_skip ?_ ?_; (focus (first | (go_simp; done) | kernel_rfl)); simp only [Act.put, List.setIfInBounds_toArray, List.set_cons_zero, List.set_cons_succ])
                  refine kept_end ?_
                  rintro wk ⟨k1, k2, k3, k4, k5, k6, k7, k8, k9, X9⟩
                  go_wp2_with fail
                  clear k1 k2 k3 k4 k5 k6 k7 k8 k9
                  refine stage_region 16 (fun W => W.cell? ⟨g7, 4, none⟩ = some (.slice (some ⟨g4, 0, none⟩) l.accts.length s3.c4) ∧ W.cell? ⟨g4, v * 4 + 1, none⟩ = some (.slice (some ⟨g, 0, none⟩) (l.accts[v]).cash.length mcap) ∧ W.cell? ⟨g, q, none⟩ = some (.int .i64 x) ∧ W.cell? ⟨w.heap.size, 4, none⟩ = some (.slice (some ⟨b, off, none⟩) l.accts.length s.c4) ∧ W.cell? ⟨b, off + v * 4 + 1, none⟩ = some (.slice (some ⟨cb, coff, none⟩) (l.accts[v]).cash.length lcap) ∧ W.cell? ⟨cb, coff + q, none⟩ = some (.int .i64 y) ∧ W.cell? ⟨w.heap.size + 1, 0, none⟩ = some (.int .i64 cur) ∧ W.cell? ⟨w.heap.size + 2, 0, none⟩ = some (.int .i64 fr) ∧ W.cell? ⟨w.heap.size + 2, 1, none⟩ = some (.int .i64 to_) ∧ SB w W g7 s l vs cur amount fr to_ s3 m2 us2) (by kernel_rfl) ?_
                  have HS := X9.drew
                  refine' stage_take (i := 0) _ rfl (by kernel_rfl) (by kernel_rfl) (by kernel_rfl) (by kernel_rfl) (fun _ _ _ h => h) ⟨HS.c7 H4.out, HS.row H4.out hvu2 HE1.out, HX.out _ (HS), HS.c1 HA.out, HS.lrow HA.out hvs HL1.out, HLx.out _ (HS), HS.pb.b2.cell 0, HS.pb.b3.cell 0, HS.pb.b3.cell 1, HS⟩ _ (fun W hW => _) _
                  rotate_left
                  focus (go_simp; done)
                  focus (obtain ⟨k1, k2, k3, k4, k5, k6, k7, k8, k9, X9⟩ := hW; go_simp; first | done | (with_reducible rfl))
                  simp only [Act.put, List.setIfInBounds_toArray, List.set_cons_zero, List.set_cons_succ]
                  refine' stage_take (i := 1) _ rfl (by kernel_rfl) (by kernel_rfl) (by kernel_rfl) (by kernel_rfl) (fun _ _ _ h => h) ⟨HS.c7 H4.out, HS.row H4.out hvu2 HE1.out, HX.out _ (HS), HS.c1 HA.out, HS.lrow HA.out hvs HL1.out, HLx.out _ (HS), HS.pb.b2.cell 0, HS.pb.b3.cell 0, HS.pb.b3.cell 1, HS⟩ _ (fun W hW => _) _
                  rotate_left
                  focus (go_simp; done)
                  focus (obtain ⟨k1, k2, k3, k4, k5, k6, k7, k8, k9, X9⟩ := hW; go_simp; first | done | (with_reducible rfl))
                  simp only [Act.put, List.setIfInBounds_toArray, List.set_cons_zero, List.set_cons_succ]
                  refine' stage_take (i := 2) _ rfl (by kernel_rfl) (by kernel_rfl) (by kernel_rfl) (by kernel_rfl) (fun _ _ _ h => h) ⟨HS.c7 H4.out, HS.row H4.out hvu2 HE1.out, HX.out _ (HS), HS.c1 HA.out, HS.lrow HA.out hvs HL1.out, HLx.out _ (HS), HS.pb.b2.cell 0, HS.pb.b3.cell 0, HS.pb.b3.cell 1, HS⟩ _ (fun W hW => _) _
                  rotate_left
                  focus (go_simp; done)
                  focus (obtain ⟨k1, k2, k3, k4, k5, k6, k7, k8, k9, X9⟩ := hW; go_simp; first | done | (with_reducible rfl))
                  simp only [Act.put, List.setIfInBounds_toArray, List.set_cons_zero, List.set_cons_succ]
                  refine' stage_take (i := 3) _ rfl (by kernel_rfl) (by kernel_rfl) (by kernel_rfl) (by kernel_rfl) (fun _ _ _ h => h) ⟨HS.c7 H4.out, HS.row H4.out hvu2 HE1.out, HX.out _ (HS), HS.c1 HA.out, HS.lrow HA.out hvs HL1.out, HLx.out _ (HS), HS.pb.b2.cell 0, HS.pb.b3.cell 0, HS.pb.b3.cell 1, HS⟩ _ (fun W hW => _) _
                  rotate_left
                  focus (go_simp; done)
                  focus (obtain ⟨k1, k2, k3, k4, k5, k6, k7, k8, k9, X9⟩ := hW; go_simp; first | done | (with_reducible rfl))
                  simp only [Act.put, List.setIfInBounds_toArray, List.set_cons_zero, List.set_cons_succ]
                  refine' stage_take (i := 4) _ rfl (by kernel_rfl) (by kernel_rfl) (by kernel_rfl) (by kernel_rfl) (fun _ _ _ h => h) ⟨HS.c7 H4.out, HS.row H4.out hvu2 HE1.out, HX.out _ (HS), HS.c1 HA.out, HS.lrow HA.out hvs HL1.out, HLx.out _ (HS), HS.pb.b2.cell 0, HS.pb.b3.cell 0, HS.pb.b3.cell 1, HS⟩ _ (fun W hW => _) _
                  rotate_left
                  focus (go_simp; done)
                  focus (obtain ⟨k1, k2, k3, k4, k5, k6, k7, k8, k9, X9⟩ := hW; go_simp; first | done | (with_reducible rfl))
                  simp only [Act.put, List.setIfInBounds_toArray, List.set_cons_zero, List.set_cons_succ]
                  refine' stage_take (i := 5) _ rfl (by kernel_rfl) (by kernel_rfl) (by kernel_rfl) (by kernel_rfl) (fun _ _ _ h => h) ⟨HS.c7 H4.out, HS.row H4.out hvu2 HE1.out, HX.out _ (HS), HS.c1 HA.out, HS.lrow HA.out hvs HL1.out, HLx.out _ (HS), HS.pb.b2.cell 0, HS.pb.b3.cell 0, HS.pb.b3.cell 1, HS⟩ _ (fun W hW => _) _
                  rotate_left
                  focus (go_simp; done)
                  focus (obtain ⟨k1, k2, k3, k4, k5, k6, k7, k8, k9, X9⟩ := hW; go_simp; first | done | (with_reducible rfl))
                  simp only [Act.put, List.setIfInBounds_toArray, List.set_cons_zero, List.set_cons_succ]
                  refine' stage_take (i := 6) _ rfl (by kernel_rfl) (by kernel_rfl) (by kernel_rfl) (by kernel_rfl) (fun _ _ _ h => h) ⟨HS.c7 H4.out, HS.row H4.out hvu2 HE1.out, HX.out _ (HS), HS.c1 HA.out, HS.lrow HA.out hvs HL1.out, HLx.out _ (HS), HS.pb.b2.cell 0, HS.pb.b3.cell 0, HS.pb.b3.cell 1, HS⟩ _ (fun W hW => _) _
                  rotate_left
                  focus (go_simp; done)
                  focus (obtain ⟨k1, k2, k3, k4, k5, k6, k7, k8, k9, X9⟩ := hW; go_simp; first | done | (with_reducible rfl))
                  simp only [Act.put, List.setIfInBounds_toArray, List.set_cons_zero, List.set_cons_succ]
                  refine' stage_take (i := 7) _ rfl (by kernel_rfl) (by kernel_rfl) (by kernel_rfl) (by kernel_rfl) (fun _ _ _ h => h) ⟨HS.c7 H4.out, HS.row H4.out hvu2 HE1.out, HX.out _ (HS), HS.c1 HA.out, HS.lrow HA.out hvs HL1.out, HLx.out _ (HS), HS.pb.b2.cell 0, HS.pb.b3.cell 0, HS.pb.b3.cell 1, HS⟩ _ (fun W hW => _) _
                  rotate_left
                  focus (go_simp; done)
                  focus (obtain ⟨k1, k2, k3, k4, k5, k6, k7, k8, k9, X9⟩ := hW; go_simp; first | done | (with_reducible rfl))
                  simp only [Act.put, List.setIfInBounds_toArray, List.set_cons_zero, List.set_cons_succ]
                  refine' stage_take (i := 8) _ rfl (by kernel_rfl) (by kernel_rfl) (by kernel_rfl) (by kernel_rfl) (fun _ _ _ h => h) ⟨HS.c7 H4.out, HS.row H4.out hvu2 HE1.out, HX.out _ (HS), HS.c1 HA.out, HS.lrow HA.out hvs HL1.out, HLx.out _ (HS), HS.pb.b2.cell 0, HS.pb.b3.cell 0, HS.pb.b3.cell 1, HS⟩ _ (fun W hW => _) _
                  rotate_left
                  focus (go_simp; done)
                  focus (obtain ⟨k1, k2, k3, k4, k5, k6, k7, k8, k9, X9⟩ := hW; go_simp; first | done | (with_reducible rfl))
                  simp only [Act.put, List.setIfInBounds_toArray, List.set_cons_zero, List.set_cons_succ]
                  refine' stage_take (i := 9) _ rfl (by kernel_rfl) (by kernel_rfl) (by kernel_rfl) (by kernel_rfl) (fun _ _ _ h => h) ⟨HS.c7 H4.out, HS.row H4.out hvu2 HE1.out, HX.out _ (HS), HS.c1 HA.out, HS.lrow HA.out hvs HL1.out, HLx.out _ (HS), HS.pb.b2.cell 0, HS.pb.b3.cell 0, HS.pb.b3.cell 1, HS⟩ _ (fun W hW => _) _
                  rotate_left
                  focus (go_simp; done)
                  focus (obtain ⟨k1, k2, k3, k4, k5, k6, k7, k8, k9, X9⟩ := hW; go_simp; first | done | (with_reducible rfl))
                  simp only [Act.put, List.setIfInBounds_toArray, List.set_cons_zero, List.set_cons_succ]
                  refine' stage_take (i := 10) _ rfl (by kernel_rfl) (by kernel_rfl) (by kernel_rfl) (by kernel_rfl) (fun _ _ _ h => h) ⟨HS.c7 H4.out, HS.row H4.out hvu2 HE1.out, HX.out _ (HS), HS.c1 HA.out, HS.lrow HA.out hvs HL1.out, HLx.out _ (HS), HS.pb.b2.cell 0, HS.pb.b3.cell 0, HS.pb.b3.cell 1, HS⟩ _ (fun W hW => _) _
                  rotate_left
                  focus (go_simp; done)
                  focus (obtain ⟨k1, k2, k3, k4, k5, k6, k7, k8, k9, X9⟩ := hW; go_simp; first | done | (with_reducible rfl))
                  simp only [Act.put, List.setIfInBounds_toArray, List.set_cons_zero, List.set_cons_succ]
                  refine' stage_take (i := 11) _ rfl (by kernel_rfl) (by kernel_rfl) (by kernel_rfl) (by kernel_rfl) (fun _ _ _ h => h) ⟨HS.c7 H4.out, HS.row H4.out hvu2 HE1.out, HX.out _ (HS), HS.c1 HA.out, HS.lrow HA.out hvs HL1.out, HLx.out _ (HS), HS.pb.b2.cell 0, HS.pb.b3.cell 0, HS.pb.b3.cell 1, HS⟩ _ (fun W hW => _) _
                  rotate_left
                  focus (go_simp; done)
                  focus (obtain ⟨k1, k2, k3, k4, k5, k6, k7, k8, k9, X9⟩ := hW; go_simp; first | done | (with_reducible rfl))
                  simp only [Act.put, List.setIfInBounds_toArray, List.set_cons_zero, List.set_cons_succ]
                  refine' stage_take (i := 12) _ rfl (by kernel_rfl) (by kernel_rfl) (by kernel_rfl) (by kernel_rfl) (fun _ _ _ h => h) ⟨HS.c7 H4.out, HS.row H4.out hvu2 HE1.out, HX.out _ (HS), HS.c1 HA.out, HS.lrow HA.out hvs HL1.out, HLx.out _ (HS), HS.pb.b2.cell 0, HS.pb.b3.cell 0, HS.pb.b3.cell 1, HS⟩ _ (fun W hW => _) _
                  rotate_left
                  focus (go_simp; done)
                  focus (obtain ⟨k1, k2, k3, k4, k5, k6, k7, k8, k9, X9⟩ := hW; go_simp; first | done | (with_reducible rfl))
                  simp only [Act.put, List.setIfInBounds_toArray, List.set_cons_zero, List.set_cons_succ]
                  refine' stage_take (i := 13) _ rfl (by kernel_rfl) (by kernel_rfl) (by kernel_rfl) (by kernel_rfl) (fun _ _ _ h => h) ⟨HS.c7 H4.out, HS.row H4.out hvu2 HE1.out, HX.out _ (HS), HS.c1 HA.out, HS.lrow HA.out hvs HL1.out, HLx.out _ (HS), HS.pb.b2.cell 0, HS.pb.b3.cell 0, HS.pb.b3.cell 1, HS⟩ _ (fun W hW => _) _
                  rotate_left
                  focus (go_simp; done)
                  focus (obtain ⟨k1, k2, k3, k4, k5, k6, k7, k8, k9, X9⟩ := hW; go_simp; first | done | (with_reducible rfl))
                  simp only [Act.put, List.setIfInBounds_toArray, List.set_cons_zero, List.set_cons_succ]
                  refine' stage_take (i := 14) _ rfl (by kernel_rfl) (by kernel_rfl) (by kernel_rfl) (by kernel_rfl) (fun _ _ _ h => h) ⟨HS.c7 H4.out, HS.row H4.out hvu2 HE1.out, HX.out _ (HS), HS.c1 HA.out, HS.lrow HA.out hvs HL1.out, HLx.out _ (HS), HS.pb.b2.cell 0, HS.pb.b3.cell 0, HS.pb.b3.cell 1, HS⟩ _ (fun W hW => _) _
                  rotate_left
                  focus (go_simp; done)
                  focus (obtain ⟨k1, k2, k3, k4, k5, k6, k7, k8, k9, X9⟩ := hW; go_simp; first | done | (with_reducible rfl))
                  simp only [Act.put, List.setIfInBounds_toArray, List.set_cons_zero, List.set_cons_succ]
                  refine' stage_take (i := 15) _ rfl (by kernel_rfl) (by kernel_rfl) (by kernel_rfl) (by kernel_rfl) (fun _ _ _ h => h) ⟨HS.c7 H4.out, HS.row H4.out hvu2 HE1.out, HX.out _ (HS), HS.c1 HA.out, HS.lrow HA.out hvs HL1.out, HLx.out _ (HS), HS.pb.b2.cell 0, HS.pb.b3.cell 0, HS.pb.b3.cell 1, HS⟩ _ (fun W hW => _) _
                  rotate_left
                  focus (go_simp; done)
                  focus (obtain ⟨k1, k2, k3, k4, k5, k6, k7, k8, k9, X9⟩ := hW; go_simp; first | done | (with_reducible rfl))
                  simp only [Act.put, List.setIfInBounds_toArray, List.set_cons_zero, List.set_cons_succ]
                  refine stage_only (i := 16) rfl (by kernel_rfl) ?_ (fun K hK => ?_)
                  focus (go_simp; done)
                  go_simp
                  refine hK.out _ _ (fun h => absurd h (by decide)) ?_
                  clear hK K
                  try simp only [Act.put, List.setIfInBounds_toArray, List.set_cons_zero, List.set_cons_succ]
                  refine stage_only (i := 17) rfl (by kernel_rfl) ?_ (fun K hK => ?_)
                  focus (go_simp; done)
                  have ck : _ = some _ := HX.out _ HS
                  have fk := HXf.out _ HS
                  go_simp
                  clear ck fk
                  refine hK.out _ _ (fun h => absurd h (by decide)) ?_
                  clear hK K
                  try simp only [Act.put, List.setIfInBounds_toArray, List.set_cons_zero, List.set_cons_succ]
                  refine stage_end (by kernel_rfl) ?_
                  have YN := Lib.hid (HPut.out _ HS)
                  clear HS X9
                  go_wp2_with fail
                  go_roundw
                  case rel => exact ⟨q + 1, _, _, by omega, by go_num, YN.out, HStep, HM2⟩
                  case measure => simp [intOf]; omega
            · have HR2 := Lib.hid (HR.out.row hvl (by omega))
              have YH := Lib.hid Y
              clear Y HR HM
              go_wp2_with fail
              go_roundw
              case rel => exact ⟨v + 1, m2, us2, by omega, by go_num, YH.out, HR2.out⟩
              case measure => simp [intOf]; omega
        · obtain rfl := HR.out.done (by omega)
          have HS := Lib.hid (fun W (Y : SB w W g7 s m vs cur amount fr to_ s3 m us) => same_calls s3 m us s m vs W Y.own.at_ Y.pb.at_ HFit.out HFit.out)
          simp only [decide_true] at HS
          unfold ledV at HS
          have YH := Lib.hid Y
          clear Y HR HCash
          have j0 : wr.cell? ⟨g7, 0, none⟩ = some (.int .i64 m.day) := YH.out.box.cell 0
          have j1 : wr.cell? ⟨g7, 1, none⟩ = some (.slice s3.a1 m.curs.length s3.c1) := YH.out.box.cell 1
          have j2 : wr.cell? ⟨g7, 2, none⟩ = some (.slice s3.a2 m.unders.length s3.c2) := YH.out.box.cell 2
          have j3 : wr.cell? ⟨g7, 3, none⟩ = some (.slice s3.a3 m.instrs.length s3.c3) := YH.out.box.cell 3
          have j4 : wr.cell? ⟨g7, 4, none⟩ = some (.slice s3.a4 m.accts.length s3.c4) := YH.out.box.cell 4
          have j5 : wr.cell? ⟨g7, 5, none⟩ = some (.slice s3.a5 m.poss.length s3.c5) := YH.out.box.cell 5
          have j6 : wr.cell? ⟨g7, 6, none⟩ = some (.slice s3.a6 m.orders.length s3.c6) := YH.out.box.cell 6
          have j7 : wr.cell? ⟨g7, 7, none⟩ = some (.slice s3.a7 m.avail.length s3.c7) := YH.out.box.cell 7
          have j8 : wr.cell? ⟨g7, 8, none⟩ = some (.slice s3.a8 m.locs.length s3.c8) := YH.out.box.cell 8
          have k0 : wr.cell? ⟨w.heap.size, 0, none⟩ = some (.int .i64 m.day) := YH.out.pb.b1.cell 0
          have k1 : wr.cell? ⟨w.heap.size, 1, none⟩ = some (.slice s.a1 m.curs.length s.c1) := YH.out.pb.b1.cell 1
          have k2 : wr.cell? ⟨w.heap.size, 2, none⟩ = some (.slice s.a2 m.unders.length s.c2) := YH.out.pb.b1.cell 2
          have k3 : wr.cell? ⟨w.heap.size, 3, none⟩ = some (.slice s.a3 m.instrs.length s.c3) := YH.out.pb.b1.cell 3
          have k4 : wr.cell? ⟨w.heap.size, 4, none⟩ = some (.slice s.a4 m.accts.length s.c4) := YH.out.pb.b1.cell 4
          have k5 : wr.cell? ⟨w.heap.size, 5, none⟩ = some (.slice s.a5 m.poss.length s.c5) := YH.out.pb.b1.cell 5
          have k6 : wr.cell? ⟨w.heap.size, 6, none⟩ = some (.slice s.a6 m.orders.length s.c6) := YH.out.pb.b1.cell 6
          have k7 : wr.cell? ⟨w.heap.size, 7, none⟩ = some (.slice s.a7 m.avail.length s.c7) := YH.out.pb.b1.cell 7
          have k8 : wr.cell? ⟨w.heap.size, 8, none⟩ = some (.slice s.a8 m.locs.length s.c8) := YH.out.pb.b1.cell 8
          go_wp2_with (go_at_call 19; refine (HS.out _ YH.out).mono ?_; rintro e w9 ⟨rfl, b9⟩)
          go_ret
          exact ⟨rfl, YH.out.pb.low.trans (b9.mono YH.out.pb.low.size)⟩

set_option maxRecDepth 100000 in
theorem opened (H : Type) (enc : TypeId × Value → H) (W : World) (base : Nat) (args : Array Value) (ds : List (DataW H)) (p : List MemPlace)
    (hval : ∀ (j : Nat) t v, Tryd.f7.params[j]? = some t → args[j]? = some v → Value.okWide Tryd.prog W .any base t v)
    (hA : DataW.TrodAll enc Tryd.prog W 0 (fun _ => true) true Tryd.f7.params.toList args.toList ds p)
    (hr : ∀ x ∈ DataW.weightsEach Tryd.prog Tryd.f7.params.toList ds, x ≤ reachBytes)
    (hL : laidMetH Tryd.prog Rows.ledgerStaysRow.laid W) :
    Calls Tryd.prog 7 args W fun e W' => e = .returned (.bool true) ∧ Below W.heap.size W W' := by
  rw [Tryd.params7] at hA hval hr
  have _ := hL
  obtain ⟨v0, vs0, d0, ds0, p0, q0, hargs, rfl, rfl, h0, r0⟩ := trodAll_cons hA
  obtain ⟨v1, vs1, d1, ds1, p1, q1, rfl, rfl, rfl, h1, r1⟩ := trodAll_cons r0
  obtain ⟨v2, vs2, d2, ds2, p2, q2, rfl, rfl, rfl, h2, r2⟩ := trodAll_cons r1
  obtain ⟨rfl, rfl, rfl⟩ := trodAll_nil r2
  obtain rfl : args = #[v0, v1, v2] := by cases args; simp_all
  obtain ⟨s, l, vs, rfl, hat, hok, hb⟩ := open_ledger2 (hval 0 37 v0 rfl rfl) h0 (fun x hx => hr x (by simp only [DataW.weightsEach, List.mem_append]; exact .inl hx))
  obtain ⟨cur, amount, rfl, _, ia⟩ := open_two (hval 1 46 v1 rfl rfl) h1
  obtain ⟨fr, to_, rfl, _, _⟩ := open_two (hval 2 46 v2 rfl rfl) h2
  exact walk s l vs cur amount fr to_ W hat hok hb ia
end Go.Proofs.YtmimhimlgbklpaaDoor.ledgerStays
