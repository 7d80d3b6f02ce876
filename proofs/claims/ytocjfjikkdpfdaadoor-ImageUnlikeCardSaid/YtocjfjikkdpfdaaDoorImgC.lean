/- The bytes tell what they are of; events compared. -/
import Derived.Test.YtocjfjikkdpfdaaDoorImgB
set_option linter.unusedSimpArgs false
set_option linter.unusedVariables false
namespace Go.Proofs.YtocjfjikkdpfdaaDoor.ImgW
open Go.RowKit Go.Proofs.YtocjfjikkdpfdaaDoor.Bas Go.Proofs.YtocjfjikkdpfdaaDoor.LedM Go.Proofs.YtocjfjikkdpfdaaDoor.LedW

theorem byte_eq {x y : Int} {k : Nat} (h : byteN x k = byteN y k) : bitsN x / 256 ^ k % 256 = bitsN y / 256 ^ k % 256 := by
  have h1 := byteN_nat x k
  have h2 := byteN_nat y k
  rw [h] at h1
  omega
theorem bits_inj {x y : Int} (hx : FixpW.I64 x) (hy : FixpW.I64 y) (h : bitsN x = bitsN y) : x = y := by
  obtain ⟨a1, a2⟩ := hx
  obtain ⟨b1, b2⟩ := hy
  unfold bitsN at h
  omega
theorem encN_inj {x y : Int} (hx : FixpW.I64 x) (hy : FixpW.I64 y) (h : encN x = encN y) : x = y := by
  unfold encN at h
  simp only [List.cons.injEq, and_true] at h
  obtain ⟨h0, h1, h2, h3, h4, h5, h6, h7⟩ := h
  have e0 := byte_eq h0
  have e1 := byte_eq h1
  have e2 := byte_eq h2
  have e3 := byte_eq h3
  have e4 := byte_eq h4
  have e5 := byte_eq h5
  have e6 := byte_eq h6
  have e7 := byte_eq h7
  have l1 := bits_lt x
  have l2 := bits_lt y
  refine bits_inj hx hy ?_
  generalize bitsN x = a at *
  generalize bitsN y = b at *
  simp only [Nat.reducePow, Nat.pow_zero, Nat.div_one] at e0 e1 e2 e3 e4 e5 e6 e7
  omega
/-- what is read at the front of bytes tells its record -/
def Code {α : Type} (f : α → List UInt8) (ok : α → Prop) : Prop := ∀ x y r r', ok x → ok y → f x ++ r = f y ++ r' → x = y ∧ r = r'
theorem code_num : Code encN FixpW.I64 := fun x y r r' hx hy h => by
  obtain ⟨h1, h2⟩ := List.append_inj h (by rw [encN_len, encN_len])
  exact ⟨encN_inj hx hy h1, h2⟩
theorem code_flat {α : Type} {f : α → List UInt8} {ok : α → Prop} (hf : Code f ok) : ∀ (xs ys : List α) (r r' : List UInt8), xs.length = ys.length → (∀ x ∈ xs, ok x) → (∀ y ∈ ys, ok y) → xs.flatMap f ++ r = ys.flatMap f ++ r' → xs = ys ∧ r = r'
  | [], [], r, r', _, _, _, h => ⟨rfl, by simpa using h⟩
  | [], _ :: _, _, _, hl, _, _, _ => by simp at hl
  | _ :: _, [], _, _, hl, _, _, _ => by simp at hl
  | x :: xs, y :: ys, r, r', hl, hx, hy, h => by
    rw [List.flatMap_cons, List.flatMap_cons, List.append_assoc, List.append_assoc] at h
    obtain ⟨e1, h2⟩ := hf x y _ _ (hx x List.mem_cons_self) (hy y List.mem_cons_self) h
    obtain ⟨e2, h3⟩ := code_flat hf xs ys r r' (by simpa using hl) (fun z hz => hx z (List.mem_cons_of_mem _ hz)) (fun z hz => hy z (List.mem_cons_of_mem _ hz)) h2
    exact ⟨by rw [e1, e2], h3⟩
theorem code_nums {xs ys : List Int} {r r' : List UInt8} (hl : xs.length = ys.length) (hx : ∀ x ∈ xs, FixpW.I64 x) (hy : ∀ y ∈ ys, FixpW.I64 y) (h : encs xs ++ r = encs ys ++ r') : xs = ys ∧ r = r' := code_flat code_num xs ys r r' hl hx hy h
theorem code_text {s t : List UInt8} {r r' : List UInt8} (hs : s.length ≤ 140737488351232) (ht : t.length ≤ 140737488351232) (h : encT s ++ r = encT t ++ r') : s = t ∧ r = r' := by
  unfold encT at h
  rw [List.append_assoc, List.append_assoc] at h
  obtain ⟨e1, h2⟩ := code_num _ _ _ _ ⟨by omega, by omega⟩ ⟨by omega, by omega⟩ h
  exact List.append_inj h2 (by omega)
theorem bitF_inj {a b : Bool} (h : bitF a = bitF b) : a = b := by cases a <;> cases b <;> simp_all [bitF]
theorem bitF_i64 (b : Bool) : FixpW.I64 (bitF b) := by cases b <;> exact ⟨by decide, by decide⟩
theorem code_cur : Code encC (fun c => FixpW.I64 c.1 ∧ FixpW.I64 c.2) := fun x y r r' hx hy h => by
  obtain ⟨e, h2⟩ := code_nums (xs := [x.1, x.2]) (ys := [y.1, y.2]) rfl (by simp; exact hx) (by simp; exact hy) h
  simp only [List.cons.injEq, and_true] at e
  exact ⟨Prod.ext e.1 e.2, h2⟩
theorem code_tri : Code encP (fun p => FixpW.I64 p.1 ∧ FixpW.I64 p.2.1 ∧ FixpW.I64 p.2.2) := fun x y r r' hx hy h => by
  obtain ⟨e, h2⟩ := code_nums (xs := [x.1, x.2.1, x.2.2]) (ys := [y.1, y.2.1, y.2.2]) rfl (by simp; exact hx) (by simp; exact hy) h
  simp only [List.cons.injEq, and_true] at e
  exact ⟨Prod.ext e.1 (Prod.ext e.2.1 e.2.2), h2⟩
theorem code_ord : Code encO (fun o => FixpW.I64 o.acct ∧ FixpW.I64 o.id ∧ FixpW.I64 o.instr ∧ FixpW.I64 o.qty ∧ FixpW.I64 o.price) := fun x y r r' hx hy h => by
  obtain ⟨e, h2⟩ := code_nums (xs := [x.acct, x.id, x.instr, x.qty, x.price]) (ys := [y.acct, y.id, y.instr, y.qty, y.price]) rfl (by simp; exact hx) (by simp; exact hy) h
  simp only [List.cons.injEq, and_true] at e
  refine ⟨?_, h2⟩
  cases x; cases y
  simp only at e
  obtain ⟨rfl, rfl, rfl, rfl, rfl⟩ := e
  rfl
theorem code_und : Code encU (fun u => u.name.length ≤ 140737488351232 ∧ FixpW.I64 u.cur ∧ FixpW.I64 u.price ∧ FixpW.I64 u.vol) := fun x y r r' hx hy h => by
  unfold encU at h
  rw [List.append_assoc, List.append_assoc] at h
  obtain ⟨e0, h1⟩ := code_text hx.1 hy.1 h
  obtain ⟨e, h2⟩ := code_nums (xs := [x.cur, x.price, x.vol]) (ys := [y.cur, y.price, y.vol]) rfl (by simp; exact hx.2) (by simp; exact hy.2) h1
  simp only [List.cons.injEq, and_true] at e
  refine ⟨?_, h2⟩
  cases x; cases y
  simp only at e e0
  subst e0
  obtain ⟨rfl, rfl, rfl⟩ := e
  rfl
theorem code_ins : Code encI (fun x => (FixpW.I64 x.1.kind ∧ FixpW.I64 x.1.under ∧ FixpW.I64 x.1.mult ∧ FixpW.I64 x.1.strike ∧ FixpW.I64 x.1.expiry ∧ FixpW.I64 x.1.mark) ∧ FixpW.I64 x.2) := fun x y r r' hx hy h => by
  have hx5 := bitF_i64 x.1.call
  have hy5 := bitF_i64 y.1.call
  obtain ⟨e, h2⟩ := code_nums (xs := [x.1.kind, x.1.under, x.1.mult, x.1.strike, x.1.expiry, bitF x.1.call, x.1.mark, x.2]) (ys := [y.1.kind, y.1.under, y.1.mult, y.1.strike, y.1.expiry, bitF y.1.call, y.1.mark, y.2]) rfl (by simp; exact ⟨hx.1.1, hx.1.2.1, hx.1.2.2.1, hx.1.2.2.2.1, hx.1.2.2.2.2.1, hx5, hx.1.2.2.2.2.2, hx.2⟩) (by simp; exact ⟨hy.1.1, hy.1.2.1, hy.1.2.2.1, hy.1.2.2.2.1, hy.1.2.2.2.2.1, hy5, hy.1.2.2.2.2.2, hy.2⟩) h
  simp only [List.cons.injEq, and_true] at e
  refine ⟨?_, h2⟩
  obtain ⟨⟨a0, a1, a2, a3, a4, a5, a6⟩, a7⟩ := x
  obtain ⟨⟨b0, b1, b2, b3, b4, b5, b6⟩, b7⟩ := y
  simp only at e
  obtain ⟨rfl, rfl, rfl, rfl, rfl, h5, rfl, rfl⟩ := e
  rw [bitF_inj h5]
theorem code_acc (n : Nat) : Code encA (fun a => a.cash.length = n ∧ FixpW.I64 a.parent ∧ FixpW.I64 a.last ∧ ∀ z ∈ a.cash, FixpW.I64 z) := fun x y r r' hx hy h => by
  have hx5 := bitF_i64 x.flag
  have hy5 := bitF_i64 y.flag
  unfold encA at h
  rw [List.append_assoc, List.append_assoc] at h
  obtain ⟨e, h1⟩ := code_nums (xs := [x.parent, bitF x.flag, x.last]) (ys := [y.parent, bitF y.flag, y.last]) rfl (by simp; exact ⟨hx.2.1, hx5, hx.2.2.1⟩) (by simp; exact ⟨hy.2.1, hy5, hy.2.2.1⟩) h
  obtain ⟨e2, h2⟩ := code_nums (by rw [hx.1, hy.1]) hx.2.2.2 hy.2.2.2 h1
  simp only [List.cons.injEq, and_true] at e
  refine ⟨?_, h2⟩
  cases x; cases y
  simp only at e e2
  subst e2
  obtain ⟨rfl, h5, rfl⟩ := e
  rw [bitF_inj h5]
theorem zip_inj {α β : Type} : ∀ {a c : List α} {b d : List β}, b.length = a.length → d.length = c.length → a.length = c.length → a.zip b = c.zip d → a = c ∧ b = d
  | [], [], [], [], _, _, _, _ => ⟨rfl, rfl⟩
  | x :: a, y :: c, u :: b, v :: d, h1, h2, h3, h => by
    simp only [List.zip_cons_cons, List.cons.injEq, Prod.mk.injEq] at h
    obtain ⟨e1, e2⟩ := zip_inj (by simpa using h1) (by simpa using h2) (by simpa using h3) h.2
    exact ⟨by rw [h.1.1, e1], by rw [h.1.2, e2]⟩
  | [], _ :: _, _, _, _, _, h3, _ => by simp at h3
  | _ :: _, [], _, _, _, _, h3, _ => by simp at h3
  | [], [], _ :: _, _, h1, _, _, _ => by simp at h1
  | [], [], [], _ :: _, _, h2, _, _ => by simp at h2
  | _ :: _, _ :: _, [], _, h1, _, _, _ => by simp at h1
  | _ :: _, _ :: _, _ :: _, [], _, h2, _, _ => by simp at h2
theorem head_i64 {l : Led} (hf : LedFit l) : ∀ x ∈ headL l, FixpW.I64 x := by
  obtain ⟨n1, n2, n3, n4, n5, n6, n7, n8⟩ := hf.len
  intro x hx
  simp only [headL, List.mem_cons, List.not_mem_nil, or_false] at hx
  rcases hx with rfl | rfl | rfl | rfl | rfl | rfl | rfl | rfl
  · exact hf.day
  all_goals exact ⟨by omega, by omega⟩
theorem good_cashLen {l : Led} (h : goodF l = true) : ∀ a ∈ l.accts, a.cash.length = l.curs.length := fun a ha => by
  obtain ⟨k, hk, rfl⟩ := List.getElem_of_mem ha
  have := allI_at (good_parts h).2.2.1 hk
  unfold accOk at this
  rw [Bool.and_eq_true, decide_eq_true_eq] at this
  exact this.1.1
/-- two ledgers that can be have one image just if they are the same -/
theorem encL_inj {l m : Led} (fl : LedFit l) (fm : LedFit m) (gl : goodF l = true) (gm : goodF m = true) (h : encL l = encL m) : l = m := by
  unfold encL at h
  simp only [List.append_assoc] at h
  have h' : encs (headL l) ++ (l.curs.flatMap encC ++ (l.unders.flatMap encU ++ ((l.instrs.zip l.avail).flatMap encI ++ (l.accts.flatMap encA ++ (l.poss.flatMap encP ++ (l.orders.flatMap encO ++ (l.locs.flatMap encP ++ []))))))) = encs (headL m) ++ (m.curs.flatMap encC ++ (m.unders.flatMap encU ++ ((m.instrs.zip m.avail).flatMap encI ++ (m.accts.flatMap encA ++ (m.poss.flatMap encP ++ (m.orders.flatMap encO ++ (m.locs.flatMap encP ++ []))))))) := by simpa using h
  obtain ⟨eh, h1⟩ := code_nums (by rfl) (head_i64 fl) (head_i64 fm) h'
  simp only [headL, List.cons.injEq, and_true] at eh
  obtain ⟨d0, d1, d2, d3, d4, d5, d6, d7⟩ := eh
  have al := (good_parts gl).2.2.2
  have am := (good_parts gm).2.2.2
  obtain ⟨e1, h2⟩ := code_flat code_cur _ _ _ _ (by omega) fl.curs fm.curs h1
  obtain ⟨e2, h3⟩ := code_flat code_und _ _ _ _ (by omega) fl.unders fm.unders h2
  have okI : ∀ {l : Led}, LedFit l → ∀ x ∈ l.instrs.zip l.avail, (FixpW.I64 x.1.kind ∧ FixpW.I64 x.1.under ∧ FixpW.I64 x.1.mult ∧ FixpW.I64 x.1.strike ∧ FixpW.I64 x.1.expiry ∧ FixpW.I64 x.1.mark) ∧ FixpW.I64 x.2 := fun hf x hx => by
    have hm := List.of_mem_zip (a := x.1) (b := x.2) hx
    exact ⟨hf.instrs _ hm.1, hf.avail _ hm.2⟩
  obtain ⟨e3, h4⟩ := code_flat code_ins _ _ _ _ (by rw [List.length_zip, List.length_zip]; omega) (okI fl) (okI fm) h3
  obtain ⟨e3a, e3b⟩ := zip_inj al am (by omega) e3
  have okA : ∀ {l : Led}, LedFit l → goodF l = true → ∀ a ∈ l.accts, a.cash.length = l.curs.length ∧ FixpW.I64 a.parent ∧ FixpW.I64 a.last ∧ ∀ z ∈ a.cash, FixpW.I64 z := fun hf hg a ha => ⟨good_cashLen hg a ha, (hf.accts a ha).1, (hf.accts a ha).2.1, (hf.accts a ha).2.2.1⟩
  obtain ⟨e4, h5⟩ := code_flat (code_acc l.curs.length) _ _ _ _ (by omega) (okA fl gl) (fun a ha => by have := okA fm gm a ha; rw [e1]; exact this) h4
  obtain ⟨e5, h6⟩ := code_flat code_tri _ _ _ _ (by omega) fl.poss fm.poss h5
  obtain ⟨e6, h7⟩ := code_flat code_ord _ _ _ _ (by omega) fl.orders fm.orders h6
  obtain ⟨e7, _⟩ := code_flat code_tri _ _ _ _ (by omega) fl.locs fm.locs h7
  cases l; cases m
  simp only at d0 e1 e2 e3a e3b e4 e5 e6 e7
  subst d0 e1 e2 e3a e3b e4 e5 e6 e7
  rfl
structure EvFit (x : EvR) : Prop where
  name : x.name.length ≤ 140737488351232
  nums : FixpW.I64 x.kind ∧ FixpW.I64 x.acct ∧ FixpW.I64 x.id ∧ FixpW.I64 x.new ∧ FixpW.I64 x.instr ∧ FixpW.I64 x.under ∧ FixpW.I64 x.cur ∧ FixpW.I64 x.qty ∧ FixpW.I64 x.price ∧ FixpW.I64 x.amount
theorem encE_inj {x y : EvR} (fx : EvFit x) (fy : EvFit y) (h : encE x = encE y) : x = y := by
  have hx5 := bitF_i64 x.call
  have hy5 := bitF_i64 y.call
  obtain ⟨a0, a1, a2, a3, a4, a5, a6, a7, a8, a9⟩ := fx.nums
  obtain ⟨b0, b1, b2, b3, b4, b5, b6, b7, b8, b9⟩ := fy.nums
  unfold encE at h
  obtain ⟨e, h1⟩ := code_nums (by rfl) (by simp; exact ⟨a0, a1, a2, a3, a4, a5, a6, a7, a8, a9, hx5⟩) (by simp; exact ⟨b0, b1, b2, b3, b4, b5, b6, b7, b8, b9, hy5⟩) h
  have h1' : encT x.name ++ [] = encT y.name ++ [] := by simpa using h1
  obtain ⟨e11, _⟩ := code_text fx.name fy.name h1'
  simp only [List.cons.injEq, and_true] at e
  cases x; cases y
  simp only at e e11
  subst e11
  obtain ⟨rfl, rfl, rfl, rfl, rfl, rfl, rfl, rfl, rfl, rfl, h10⟩ := e
  rw [bitF_inj h10]
end Go.Proofs.YtocjfjikkdpfdaaDoor.ImgW
namespace Go.Proofs.YtocjfjikkdpfdaaDoor.ImgW
open Go.ChangeShapes Go.WideShapes Go.ChangeAt Go.RowKit Go.Proofs.YtocjfjikkdpfdaaDoor.Bas Go.Proofs.YtocjfjikkdpfdaaDoor.LedM Go.Proofs.YtocjfjikkdpfdaaDoor.LedW

/-- an event's cells -/
def evC (x : EvR) : List Value := [.int .i64 x.kind, .int .i64 x.acct, .int .i64 x.id, .int .i64 x.new, .int .i64 x.instr, .int .i64 x.under, .int .i64 x.cur, .int .i64 x.qty, .int .i64 x.price, .int .i64 x.amount, .bool x.call, .string ⟨x.name.toArray⟩]
theorem evC_len (x : EvR) : (evC x).length = 12 := rfl
section
variable {P : Program} {H : Type} {enc : TypeId × Value → H}
/-- a struct's fields of one cell, out of its reading -/
theorem fields_read {W : World} {fs : Array Field} {t : TypeId} {L : List Value} {y : DataW H × List MemPlace} {fuel : Nat} (ht : P.underlying t = some (.struct fs)) (hf : DataW.trod enc P W 0 (fun _ => true) true fuel t L = some y) :
    ∃ (ds : List (DataW H)), L.length = P.cellsOf t ∧ y.1 = .agg ds ∧ ds.length = fs.size ∧
      ∀ (i : Nat) (f : Field), fs[i]? = some f → P.cellsOf f.type = 1 → ∃ (x : Value) (z : DataW H × List MemPlace) (m : Nat), L[f.offset]? = some x ∧ ds[i]? = some z.1 ∧ DataW.trod enc P W 0 (fun _ => true) true m f.type [x] = some z := by
  obtain ⟨xs, m, _, hx, hl, hlen, hg⟩ := DataW.trod_struct ht hf
  refine ⟨xs.map (·.1), hl, by rw [hx], by simpa using hlen, ?_⟩
  intro i f hfi hc
  have h1 := hg i f hfi
  have hi : i < xs.length := by rw [hlen]; exact (Array.getElem?_eq_some_iff.1 hfi).1
  rw [List.getElem?_eq_getElem hi, hc] at h1
  have hne : L[f.offset]? ≠ none := by
    intro hn
    rw [List.getElem?_eq_none_iff] at hn
    rw [List.drop_of_length_le hn] at h1
    cases m with
    | zero => simp [DataW.trod] at h1
    | succ n =>
      unfold DataW.trod at h1
      simp only [List.take_nil] at h1
      split at h1 <;> simp_all
  obtain ⟨x, hx⟩ := Option.ne_none_iff_exists'.1 hne
  have e : (L.drop f.offset).take 1 = [x] := by
    obtain ⟨hlt, he⟩ := List.getElem?_eq_some_iff.1 hx
    rw [List.drop_eq_getElem_cons hlt, he]; rfl
  rw [e] at h1
  exact ⟨x, xs[i], m, hx, by simp [hi], h1⟩
end
set_option maxRecDepth 100000 in
theorem evr_of_trod {H : Type} {enc : TypeId × Value → H} {W : World} {L : List Value} {y : DataW H × List MemPlace} {fuel : Nat} (hf : DataW.trod enc Tryd.prog W 0 (fun _ => true) true fuel 33 L = some y) (hw : ∀ x ∈ y.1.weights Tryd.prog 33, x ≤ reachBytes) :
    ∃ x : EvR, L = evC x ∧ EvFit x := by
  obtain ⟨ds, hL, hy, _, hg⟩ := fields_read Tryd.underlying33 hf
  rw [cellsOf_ev] at hL
  rw [hy] at hw
  match L, hL with
  | [r0, r1, r2, r3, r4, r5, r6, r7, r8, r9, r10, r11], _ =>
    obtain ⟨x0, y0, m0, e0, d0, t0⟩ := hg 0 _ rfl cells64
    obtain ⟨z0, rfl, w0⟩ := int_of t0
    obtain ⟨x1, y1, m1, e1, d1, t1⟩ := hg 1 _ rfl cells64
    obtain ⟨z1, rfl, w1⟩ := int_of t1
    obtain ⟨x2, y2, m2, e2, d2, t2⟩ := hg 2 _ rfl cells64
    obtain ⟨z2, rfl, w2⟩ := int_of t2
    obtain ⟨x3, y3, m3, e3, d3, t3⟩ := hg 3 _ rfl cells64
    obtain ⟨z3, rfl, w3⟩ := int_of t3
    obtain ⟨x4, y4, m4, e4, d4, t4⟩ := hg 4 _ rfl cells64
    obtain ⟨z4, rfl, w4⟩ := int_of t4
    obtain ⟨x5, y5, m5, e5, d5, t5⟩ := hg 5 _ rfl cells64
    obtain ⟨z5, rfl, w5⟩ := int_of t5
    obtain ⟨x6, y6, m6, e6, d6, t6⟩ := hg 6 _ rfl cells64
    obtain ⟨z6, rfl, w6⟩ := int_of t6
    obtain ⟨x7, y7, m7, e7, d7, t7⟩ := hg 7 _ rfl cells64
    obtain ⟨z7, rfl, w7⟩ := int_of t7
    obtain ⟨x8, y8, m8, e8, d8, t8⟩ := hg 8 _ rfl cells64
    obtain ⟨z8, rfl, w8⟩ := int_of t8
    obtain ⟨x9, y9, m9, e9, d9, t9⟩ := hg 9 _ rfl cells64
    obtain ⟨z9, rfl, w9⟩ := int_of t9
    obtain ⟨x10, y10, m10, e10, d10, t10⟩ := hg 10 _ rfl cellsB
    obtain ⟨z10, rfl⟩ := bool_of t10
    obtain ⟨x11, y11, m11, e11, d11, t11⟩ := hg 11 _ rfl cellsS
    obtain ⟨z11, rfl, w11⟩ := str_of t11 (reach_field (i := 11) Tryd.underlying33 hw rfl d11)
    simp at e0 e1 e2 e3 e4 e5 e6 e7 e8 e9 e10 e11
    subst e0 e1 e2 e3 e4 e5 e6 e7 e8 e9 e10 e11
    exact ⟨⟨z0, z1, z2, z3, z4, z5, z6, z7, z8, z9, z10, z11⟩, rfl, w11, w0, w1, w2, w3, w4, w5, w6, w7, w8, w9⟩
theorem cellsOf_ev2 : Tryd.prog.cellsOf 43 = 24 := by kernel_rfl
set_option maxRecDepth 100000 in
/-- two events, handed in -/
theorem open_ev2 {H : Type} {enc : TypeId × Value → H} {W : World} {base : Nat} {v : Value} {d : DataW H} {p : List MemPlace} (hv : Value.okWide Tryd.prog W .any base 43 v) (h : DataW.Trod enc Tryd.prog W 0 (fun _ => true) true 43 v d p) (hw : ∀ x ∈ d.weights Tryd.prog 43, x ≤ reachBytes) :
    ∃ x y : EvR, v = .agg (evC x ++ evC y).toArray ∧ EvFit x ∧ EvFit y := by
  simp only [Value.okWide, Tryd.underlying43] at hv
  obtain ⟨cs, rfl, hsz, _⟩ := hv
  obtain ⟨fuel, hf⟩ := h
  obtain ⟨xs, m, _, hx, hl, hlen, hg⟩ := DataW.trod_array Tryd.underlying43 hf
  obtain ⟨L⟩ := cs
  rw [cellsOf_ev2] at hl
  rw [cellsOf_ev] at hg
  simp only [Value.cells] at hg hl
  obtain rfl : d = .agg (xs.map (·.1)) := congrArg Prod.fst hx
  have hall : ∀ i (z : DataW H × List MemPlace), xs[i]? = some z → ∀ x ∈ z.1.weights Tryd.prog 33, x ≤ reachBytes := fun i z hz x hxm => hw x (by
    simp only [DataW.weights, Tryd.underlying43]
    exact weights_all (i := i) (by rw [List.getElem?_map, hz]; rfl) x hxm)
  obtain ⟨x, ex, fx⟩ := evr_of_trod ((hg 0 (by decide)).trans (List.getElem?_eq_getElem (by omega))) (hall 0 _ (List.getElem?_eq_getElem (by omega)))
  obtain ⟨y, ey, fy⟩ := evr_of_trod ((hg 1 (by decide)).trans (List.getElem?_eq_getElem (by omega))) (hall 1 _ (List.getElem?_eq_getElem (by omega)))
  refine ⟨x, y, ?_, fx, fy⟩
  have hL : L = evC x ++ evC y := by
    rw [← ex, ← ey]
    simp only [Nat.zero_mul, List.drop_zero, Nat.one_mul]
    have : (L.drop 12).take 12 = L.drop 12 := List.take_of_length_le (by simp; omega)
    rw [this, List.take_append_drop]
  rw [hL]
set_option maxHeartbeats 4000000 in
theorem eql_evs (W : World) (x0 : Int) (x1 : Int) (x2 : Int) (x3 : Int) (x4 : Int) (x5 : Int) (x6 : Int) (x7 : Int) (x8 : Int) (x9 : Int) (x10 : Bool) (x11 : List UInt8) (y0 : Int) (y1 : Int) (y2 : Int) (y3 : Int) (y4 : Int) (y5 : Int) (y6 : Int) (y7 : Int) (y8 : Int) (y9 : Int) (y10 : Bool) (y11 : List UInt8) : (binOp .eql 33 (.agg #[.int .i64 x0, .int .i64 x1, .int .i64 x2, .int .i64 x3, .int .i64 x4, .int .i64 x5, .int .i64 x6, .int .i64 x7, .int .i64 x8, .int .i64 x9, .bool x10, .string ⟨x11.toArray⟩]) (.agg #[.int .i64 y0, .int .i64 y1, .int .i64 y2, .int .i64 y3, .int .i64 y4, .int .i64 y5, .int .i64 y6, .int .i64 y7, .int .i64 y8, .int .i64 y9, .bool y10, .string ⟨y11.toArray⟩])).run Tryd.prog W = .ok (.bool (((x0 == y0) && (x1 == y1) && (x2 == y2) && (x3 == y3) && (x4 == y4) && (x5 == y5) && (x6 == y6) && (x7 == y7) && (x8 == y8) && (x9 == y9) && (x10 == y10) && (x11 == y11)))) W := by
  by_cases h0 : x0 = y0
  rotate_left
  · simp [go_sem, h0]
  subst h0
  by_cases h1 : x1 = y1
  rotate_left
  · simp [go_sem, h1]
  subst h1
  by_cases h2 : x2 = y2
  rotate_left
  · simp [go_sem, h2]
  subst h2
  by_cases h3 : x3 = y3
  rotate_left
  · simp [go_sem, h3]
  subst h3
  by_cases h4 : x4 = y4
  rotate_left
  · simp [go_sem, h4]
  subst h4
  by_cases h5 : x5 = y5
  rotate_left
  · simp [go_sem, h5]
  subst h5
  by_cases h6 : x6 = y6
  rotate_left
  · simp [go_sem, h6]
  subst h6
  by_cases h7 : x7 = y7
  rotate_left
  · simp [go_sem, h7]
  subst h7
  by_cases h8 : x8 = y8
  rotate_left
  · simp [go_sem, h8]
  subst h8
  by_cases h9 : x9 = y9
  rotate_left
  · simp [go_sem, h9]
  subst h9
  by_cases h10 : x10 = y10
  rotate_left
  · simp [go_sem, h10]
  subst h10
  by_cases h11 : x11 = y11
  rotate_left
  · simp [go_sem, h11]
  subst h11
  simp [go_sem]
set_option maxHeartbeats 4000000 in
theorem neq_evs (W : World) (x0 : Int) (x1 : Int) (x2 : Int) (x3 : Int) (x4 : Int) (x5 : Int) (x6 : Int) (x7 : Int) (x8 : Int) (x9 : Int) (x10 : Bool) (x11 : List UInt8) (y0 : Int) (y1 : Int) (y2 : Int) (y3 : Int) (y4 : Int) (y5 : Int) (y6 : Int) (y7 : Int) (y8 : Int) (y9 : Int) (y10 : Bool) (y11 : List UInt8) : (binOp .neq 33 (.agg #[.int .i64 x0, .int .i64 x1, .int .i64 x2, .int .i64 x3, .int .i64 x4, .int .i64 x5, .int .i64 x6, .int .i64 x7, .int .i64 x8, .int .i64 x9, .bool x10, .string ⟨x11.toArray⟩]) (.agg #[.int .i64 y0, .int .i64 y1, .int .i64 y2, .int .i64 y3, .int .i64 y4, .int .i64 y5, .int .i64 y6, .int .i64 y7, .int .i64 y8, .int .i64 y9, .bool y10, .string ⟨y11.toArray⟩])).run Tryd.prog W = .ok (.bool (!((x0 == y0) && (x1 == y1) && (x2 == y2) && (x3 == y3) && (x4 == y4) && (x5 == y5) && (x6 == y6) && (x7 == y7) && (x8 == y8) && (x9 == y9) && (x10 == y10) && (x11 == y11)))) W := by
  by_cases h0 : x0 = y0
  rotate_left
  · simp [go_sem, h0]
  subst h0
  by_cases h1 : x1 = y1
  rotate_left
  · simp [go_sem, h1]
  subst h1
  by_cases h2 : x2 = y2
  rotate_left
  · simp [go_sem, h2]
  subst h2
  by_cases h3 : x3 = y3
  rotate_left
  · simp [go_sem, h3]
  subst h3
  by_cases h4 : x4 = y4
  rotate_left
  · simp [go_sem, h4]
  subst h4
  by_cases h5 : x5 = y5
  rotate_left
  · simp [go_sem, h5]
  subst h5
  by_cases h6 : x6 = y6
  rotate_left
  · simp [go_sem, h6]
  subst h6
  by_cases h7 : x7 = y7
  rotate_left
  · simp [go_sem, h7]
  subst h7
  by_cases h8 : x8 = y8
  rotate_left
  · simp [go_sem, h8]
  subst h8
  by_cases h9 : x9 = y9
  rotate_left
  · simp [go_sem, h9]
  subst h9
  by_cases h10 : x10 = y10
  rotate_left
  · simp [go_sem, h10]
  subst h10
  by_cases h11 : x11 = y11
  rotate_left
  · simp [go_sem, h11]
  subst h11
  simp [go_sem]
theorem ev_beq (x y : EvR) : ((x.kind == y.kind) && (x.acct == y.acct) && (x.id == y.id) && (x.new == y.new) && (x.instr == y.instr) && (x.under == y.under) && (x.cur == y.cur) && (x.qty == y.qty) && (x.price == y.price) && (x.amount == y.amount) && (x.call == y.call) && (x.name == y.name)) = decide (x = y) := by
  rw [Bool.eq_iff_iff]
  simp only [Bool.and_eq_true, beq_iff_eq, decide_eq_true_eq]
  constructor
  · cases x; cases y
    simp only
    rintro ⟨⟨⟨⟨⟨⟨⟨⟨⟨⟨⟨rfl, rfl⟩, rfl⟩, rfl⟩, rfl⟩, rfl⟩, rfl⟩, rfl⟩, rfl⟩, rfl⟩, rfl⟩, rfl⟩
    rfl
  · rintro rfl; simp
theorem eql_ev2 (W : World) (x y : EvR) : (binOp .eql 33 (.agg #[.int .i64 x.kind, .int .i64 x.acct, .int .i64 x.id, .int .i64 x.new, .int .i64 x.instr, .int .i64 x.under, .int .i64 x.cur, .int .i64 x.qty, .int .i64 x.price, .int .i64 x.amount, .bool x.call, .string ⟨x.name.toArray⟩]) (.agg #[.int .i64 y.kind, .int .i64 y.acct, .int .i64 y.id, .int .i64 y.new, .int .i64 y.instr, .int .i64 y.under, .int .i64 y.cur, .int .i64 y.qty, .int .i64 y.price, .int .i64 y.amount, .bool y.call, .string ⟨y.name.toArray⟩])).run Tryd.prog W = .ok (.bool (decide (x = y))) W := by rw [eql_evs, ev_beq]
theorem neq_ev2 (W : World) (x y : EvR) : (binOp .neq 33 (.agg #[.int .i64 x.kind, .int .i64 x.acct, .int .i64 x.id, .int .i64 x.new, .int .i64 x.instr, .int .i64 x.under, .int .i64 x.cur, .int .i64 x.qty, .int .i64 x.price, .int .i64 x.amount, .bool x.call, .string ⟨x.name.toArray⟩]) (.agg #[.int .i64 y.kind, .int .i64 y.acct, .int .i64 y.id, .int .i64 y.new, .int .i64 y.instr, .int .i64 y.under, .int .i64 y.cur, .int .i64 y.qty, .int .i64 y.price, .int .i64 y.amount, .bool y.call, .string ⟨y.name.toArray⟩])).run Tryd.prog W = .ok (.bool (!decide (x = y))) W := by rw [neq_evs, ev_beq]
end Go.Proofs.YtocjfjikkdpfdaaDoor.ImgW
