/- PortKeeps: the walk, and the step from the law's arguments to it. -/
import Derived.Test.YtbpndiegbfpigaaDoorPortReads
namespace Go.Proofs.YtbpndiegbfpigaaDoor.portKeeps
open Go.ChangeShapes Go.WideShapes Go.ChangeAt Go.RowKit Go.Proofs.YtbpndiegbfpigaaDoor.Bas Go.Proofs.YtbpndiegbfpigaaDoor.DecM Go.Proofs.YtbpndiegbfpigaaDoor.FixpM Go.Proofs.YtbpndiegbfpigaaDoor.FixpW Go.Proofs.YtbpndiegbfpigaaDoor.DecW Go.Proofs.YtbpndiegbfpigaaDoor.FldW Go.Proofs.YtbpndiegbfpigaaDoor.PortM Go.Proofs.YtbpndiegbfpigaaDoor.PortW Go.Proofs.YtbpndiegbfpigaaDoor.portReads

/-- all blocks but one stand -/
structure Off (o : Option Nat) (A B : World) : Prop where
  size : A.heap.size ≤ B.heap.size
  same : ∀ h, h < A.heap.size → o ≠ some h → B.heap[h]? = A.heap[h]?
theorem Off.refl (o : Option Nat) (A : World) : Off o A A := ⟨Nat.le_refl _, fun _ _ _ => rfl⟩
theorem Off.trans {o : Option Nat} {A B C : World} (h : Off o A B) (k : Off o B C) : Off o A C :=
  ⟨Nat.le_trans h.size k.size, fun g hg hn => (k.same g (Nat.lt_of_lt_of_le hg h.size) hn).trans (h.same g hg hn)⟩
theorem Off.set {A : World} {g i : Nat} (u : Value) : Off (some g) A (A.setCell ⟨g, i, none⟩ u) :=
  ⟨by simp, fun h _ hn => Below.heap_setCell A _ u h (fun e => hn (by rw [e]))⟩
theorem Off.grown {A B : World} {o : Option Nat} (h : A.grownBy B o) (hz : A.heap.size ≤ B.heap.size) : Off o A B := ⟨hz, fun g hg hn => h.block g hg (fun e => hn e.symm)⟩
theorem off_own {A B : World} {o : Option Nat} {base : Nat} {e : TypeId} {size : Nat} {v : Value} {n : Nat} {xs : List Value} (h : A.ownsRow base e size v n xs) (k : Off o A B) (hne : ∀ g, v.ownBlock = some g → o ≠ some g) : B.ownsRow base e size v n xs := by
  refine ⟨h.1, ?_⟩
  rcases h.2 with hn | ⟨g, cap, cur, rfl, hbg, hg, rest⟩
  · exact .inl hn
  · exact .inr ⟨g, cap, cur, rfl, hbg, (k.same g (Array.getElem?_eq_some_iff.1 hg).1 (hne g rfl)).trans hg, rest⟩
theorem own_under {A C : World} {B : Nat} {base : Nat} {e : TypeId} {size : Nat} {v : Value} {n : Nat} {xs : List Value} (h : A.ownsRow base e size v n xs) (hb : Below B A C) (hlt : ∀ k, v.ownBlock = some k → k < B) : C.ownsRow base e size v n xs := by
  refine ⟨h.1, ?_⟩
  rcases h.2 with hn | ⟨g, cap, cur, rfl, hbg, hg, rest⟩
  · exact .inl hn
  · exact .inr ⟨g, cap, cur, rfl, hbg, (hb.block g (hlt g rfl)).trans hg, rest⟩
theorem own_lt {w : World} {base : Nat} {e : TypeId} {size : Nat} {v : Value} {n : Nat} {xs : List Value} (h : w.ownsRow base e size v n xs) : ∀ k, v.ownBlock = some k → base ≤ k ∧ k < w.heap.size := by
  intro k hk
  rcases h.2 with ⟨rfl, _⟩ | ⟨g, cap, cur, rfl, hb, hg, _⟩
  · cases hk
  · cases hk
    exact ⟨hb, (Array.getElem?_eq_some_iff.1 hg).1⟩
theorem _root_.Go.Proofs.YtbpndiegbfpigaaDoor.portReads.HoldF.under {w W W' : World} {a : Option Addr} {fs : List Fld} {B : Nat} (h : HoldF w W a fs) (hb : Below B W W') (hB : w.heap.size ≤ B) : HoldF w W' a fs :=
  ⟨h.at_.below hb (fun b off s e hn => Nat.lt_of_lt_of_le (h.ab b off s e hn) hB), h.low.trans (hb.mono hB), h.ab⟩
theorem fieldsR_len (v : Ev) : (fieldsR v).1.length ≤ 7 := by
  unfold fieldsR
  have := tagsF_len v.kind
  split
  · simp
  · split <;> simp [outF]; omega
/-- what the walk keeps of what was handed in -/
structure Kp (w W : World) (v : Ev) (a : Option Addr) (fs : List Fld) (g c3 b0 : Nat) : Prop where
  H : HoldF w W a fs
  X : Box W w.heap.size 23 (Ev.cells v)
  O : W.ownsRow b0 41 2 (.slice (some ⟨g, 0, none⟩) (fs.length + 1) c3) (fs.length + 1) (fcells fs ++ fcell (71, []))
theorem Kp.keep {w W W' : World} {v : Ev} {a : Option Addr} {fs : List Fld} {g c3 b0 : Nat} (h : Kp w W v a fs g c3 b0) (hb : Below W.heap.size W W') : Kp w W' v a fs g c3 b0 := ⟨h.H.keep hb, h.X.keep hb, owns_below h.O hb⟩
theorem Kp.glt {w W : World} {v : Ev} {a : Option Addr} {fs : List Fld} {g c3 b0 : Nat} (h : Kp w W v a fs g c3 b0) : g < W.heap.size := (own_lt h.O g rfl).2
theorem Kp.under {w W W' : World} {v : Ev} {a : Option Addr} {fs : List Fld} {g c3 b0 B : Nat} (h : Kp w W v a fs g c3 b0) (hb : Below B W W') (hB : w.heap.size < B) (hg : g < B) : Kp w W' v a fs g c3 b0 :=
  ⟨h.H.under hb (by omega), h.X.below hb hB, own_under h.O hb (fun k e => by cases e; exact hg)⟩
theorem Kp.mine {w W : World} {v : Ev} {a : Option Addr} {fs : List Fld} {g c3 b0 : Nat} (h : Kp w W v a fs g c3 b0) : At W (some ⟨g, 0, none⟩) (fcells fs) := by
  obtain ⟨_, _, e, _, _, hat, _, _⟩ := at_of_owns h.O
  cases e
  have := hat.take (fcells fs).length
  rwa [List.take_left] at this
theorem Kp.last {w W : World} {v : Ev} {a : Option Addr} {fs : List Fld} {g c3 b0 : Nat} (h : Kp w W v a fs g c3 b0) : W.cell? ⟨g, fs.length * 2, none⟩ = some (.int .i64 71) := by
  rw [h.O.cellAt (fs.length * 2) (by omega), List.getElem?_append_right (by rw [fcells_len]; omega), fcells_len, Nat.sub_self]; rfl
theorem Kp.drewN {w W : World} {v : Ev} {a : Option Addr} {fs : List Fld} {g c3 b0 : Nat} (h : Kp w W v a fs g c3 b0) (n : Nat) : Kp w (W.drewN n) v a fs g c3 b0 := ⟨⟨h.H.at_, below_drewN h.H.low n, h.H.ab⟩, h.X, owns_drewN h.O n⟩
set_option maxHeartbeats 4000000 in
set_option maxRecDepth 20000 in
theorem walk (v : Ev) (fs : List Fld) (a : Option Addr) (cap : Nat) (w : World) (hk : I64 v.kind) (hn : ∀ t, I64 (num v t)) (hl : fs.length ≤ 5864062014806) (hok : ∀ f ∈ fs, f.2.length ≤ 140737488351232) (hat : At w a (fcells fs)) (ht : Pow w) :
    Calls Tryd.prog 5 #[.agg (Ev.cells v), .slice a fs.length cap] w fun e w' => e = .returned (.bool true) ∧ Below w.heap.size w w' := by
  have HT := Lib.hid ht
  have C0 := Lib.hid (fun W (h : Pow W) => wakes_calls W h)
  have C1 := Lib.hid (fun W h => long_calls fs a cap W (by omega) hok h)
  have H0 : HoldF w (w.alloc (.cells (Ev.cells v) 23)) a fs := HoldF.alloc ⟨hat, Below.refl _ _, hat.lt⟩ _
  have X0 := Box.new w 23 (Ev.cells v)
  have HO := Lib.hid hok
  clear ht hat hok
  go_enter Tryd.func5, Tryd.ntmps5
  go_upto_region 1 with fail
  generalize w.alloc (.cells (Ev.cells v) 23) = w0 at *
  by_cases hbig : 16384 < tot fs
  · rw [decide_eq_true hbig] at C1
    have hd0 : w0.cell? ⟨w.heap.size, 11, none⟩ = some (.string ⟨v.name.toArray⟩) := X0.cell 11
    clear hbig
    go_wp2_with (first
      | (go_at_call 6; refine (C0.out _ (HT.out.keep H0.low)).mono ?_; rintro e w1 ⟨rfl, b1⟩; have H1 := H0.keep b1; have X1 := X0.keep b1)
      | (go_at_call 14; refine (C1.out _ H1.at_).mono ?_; rintro e w2 ⟨rfl, b2⟩; have H2 := H1.keep b2))
    go_ret
    exact ⟨rfl, H2.low⟩
  · rw [decide_eq_false hbig] at C1
    have hfl : fs.length ≤ 16384 := by have := tot_len fs; omega
    clear hbig
    by_cases hnm : 1024 < v.name.length
    · have hnm' : (1024 : Int) < (v.name.length : Int) := by omega
      clear hnm
      go_wp2_with (first
        | (go_at_call 6; refine (C0.out _ (HT.out.keep H0.low)).mono ?_; rintro e w1 ⟨rfl, b1⟩; have H1 := H0.keep b1; have X1 := X0.keep b1)
        | (go_at_call 14; refine (C1.out _ H1.at_).mono ?_; rintro e w2 ⟨rfl, b2⟩; have H2 := H1.keep b2; have X2 := X1.keep b2; have hd : w2.cell? ⟨w.heap.size, 11, none⟩ = some (.string ⟨v.name.toArray⟩) := X2.cell 11))
      go_ret
      exact ⟨rfl, H2.low⟩
    · have hnm' : ¬ (1024 : Int) < (v.name.length : Int) := by omega
      have HF := Lib.hid (⟨hn, hk, by omega⟩ : Ev.Fine v)
      clear hnm
      go_upto_region 5 with (first
        | (go_at_call 6; refine (C0.out _ (HT.out.keep H0.low)).mono ?_; rintro e w1 ⟨rfl, b1⟩; have H1 := H0.keep b1; have X1 := X0.keep b1)
        | (go_at_call 14; refine (C1.out _ H1.at_).mono ?_; rintro e w2 ⟨rfl, b2⟩; have H2 := H1.keep b2; have X2 := X1.keep b2; have hd : w2.cell? ⟨w.heap.size, 11, none⟩ = some (.string ⟨v.name.toArray⟩) := X2.cell 11))
      clear C0 C1 H0 H1 X0 X1 b1 b2 hd hnm'
      go_upto_region 6 with (first
        | (at_builtin; refine wpList_append_at _ rfl (.tmp 23) (.tmp 24) elemF rfl w2.heap.size (.slice (some ⟨w2.heap.size, 0, none⟩) 0 0) 0 [] rfl (owns_empty w2 _ _ _ (Nat.le_refl _)) a fs.length cap (fcells fs) rfl (fcells_len fs) (H2.at_.keep ((Below.refl _ _).alloc (Nat.le_refl _) _)) (one_fcells fs) (by unfold maxLen; omega) (by omega) (by simp) ?_; intro v2 w3 own2 bel2 _ _; have hB2 := ((Below.refl w2.heap.size w2).alloc (Nat.le_refl _) _).trans bel2; have z2 := hB2.size; simp only [Nat.zero_add, List.nil_append] at own2)
        | (at_builtin; refine wpList_append_at _ rfl (.tmp 25) (.tmp 27) elemF rfl w2.heap.size v2 fs.length (fcells fs) rfl (own2.alloc _) (some ⟨w3.heap.size, 0, none⟩) 1 1 (fcell (71, [])) rfl rfl (at_alloc w3 (fcell (71, [])).toArray _ _) (by simp [fcell, Value.oneCell']) (by unfold maxLen; omega) (by omega) (by simp; omega) ?_; intro v3 w4 own3 bel3 _ _; have hB3 := (hB2.alloc z2 _).trans bel3; clear own2 bel2 bel3 hB2 z2; obtain ⟨g, c3, rfl, hg1, hg2⟩ := own3.form (by omega)))
      have K4 : Kp w w4 v a fs g c3 w2.heap.size := ⟨H2.keep hB3, X2.keep hB3, own3⟩
      have hc3 : fs.length + 1 ≤ c3 := by
        obtain ⟨_, _, e, _, h, _, _, _⟩ := at_of_owns own3
        cases e; exact h
      have hb0 : w.heap.size < w2.heap.size := X2.lt
      generalize w2.heap.size = b0 at *
      clear H2 X2 own3 hB3
      have c1 := fun c W h => event_calls fs (some ⟨g, 0, none⟩) c W (by omega) HO.out h
      have c2 := fun c W h => reply_calls fs (some ⟨g, 0, none⟩) c W HO.out (by omega) h
      have c3' := fun W h => fields_calls v W HF.out h
      have c4 := fun W => rfields_calls v W HF.out
      have hlen := fieldsR_len v
      generalize eventR fs = er at c1
      obtain ⟨ev', ee⟩ := er
      generalize replyR fs = rr at c2
      obtain ⟨⟨rc, rn⟩, re⟩ := rr
      generalize fieldsR v = fr at *
      obtain ⟨fl, fe⟩ := fr
      simp only at c1 c2 c3' c4 hlen
      have E1 := Lib.hid c1
      have E2 := Lib.hid c2
      have E3 := Lib.hid c3'
      have E4 := Lib.hid c4
      clear c1 c2 c3' c4
      go_upto_region 7 with (go_at_call 15; refine (E1.out _ _ K4.mine).mono ?_; rintro e w5 ⟨rfl, b5⟩; have K5 := K4.keep b5; clear E1)
      clear K4 b5
      go_upto_region 8 with (go_at_call 17; refine (E2.out _ _ K5.mine).mono ?_; rintro e w6 ⟨rfl, b6⟩; have K6 := K5.keep b6; clear E2)
      clear K5 b6
      go_upto_region 9 with (first
        | ((with_reducible refine wpList_load_box rfl 23 (.tmp 2) rfl K6.X Tryd.underlying23 ?_ ?_ ?_ ?_); (· rfl); (· exact size12 _); (· rfl))
        | (go_at_call 7; refine (E3.out _ (HT.out.keep K6.H.low)).mono ?_; rintro e w7 ⟨aa, ca, rfl, own7, b7⟩; have K7 := K6.keep b7; have OA7 := Lib.hid own7))
      have z7 := b7.size
      have hg6 := K6.glt
      have hw6 := K6.X.lt
      clear K6 own7 b7
      go_upto_region 10 with (first
        | ((with_reducible refine wpList_load_box rfl 23 (.tmp 2) rfl K7.X Tryd.underlying23 ?_ ?_ ?_ ?_); (· rfl); (· exact size12 _); (· rfl))
        | (go_at_call 7; refine (E3.out _ (HT.out.keep K7.H.low)).mono ?_; rintro e w8 ⟨ab, cb, rfl, own8, b8⟩; have K8 := K7.keep b8; have OA8 := Lib.hid (owns_below OA7.out b8); have OB8 := Lib.hid own8))
      have hAB := Lib.hid (fun k (e : (Value.slice ab fl.length cb).ownBlock = some k) (e' : (Value.slice aa fl.length ca).ownBlock = some k) => absurd (b := False) ((own_lt OA7.out k e').2) (by have := (own_lt OB8.out k e).1; omega))
      have z8 := b8.size
      clear K7 OA7 own8 b8 E3
      have hB0 : w.heap.size ≤ w6.heap.size := Nat.le_of_lt hw6
      have K8h := Lib.hid K8
      go_wp2_with fail
      go_loopw [51] (fun i wr => ∃ k : Nat, k ≤ fl.length ∧ i = .int .i64 k ∧ (∃ ys, wr.ownsRow w6.heap.size 41 2 (.slice aa fl.length ca) fl.length ys) ∧ Off (Value.slice aa fl.length ca).ownBlock w8 wr ∧ Below w6.heap.size w8 wr) (fun i _ => fl.length - (intOf i).toNat)
      case atStart => exact ⟨0, by omega, rfl, ⟨_, OA8.out⟩, Off.refl _ _, Below.refl _ _⟩
      case round =>
        clear K8
        obtain ⟨k, hk, rfl, ⟨ys, own⟩, hoff, hbr⟩ := hrel
        by_cases hlt : k < fl.length
        · obtain ⟨g5, c5, hv5, hq5, _⟩ := own.form (by omega)
          cases hv5
          have hln := own.1
          have hcl := own.cellAt (k * 2) (by omega)
          have hcl1 := own.cellAt (k * 2 + 1) (by omega)
          rw [List.getElem?_eq_getElem (by omega)] at hcl hcl1
          have hf := own.frozenAt (k * 2)
          have hf1 := own.frozenAt (k * 2 + 1)
          have hst := Lib.hid (((own.stored (k * 2) (.int .i64 0)).1.stored (k * 2 + 1) (.string ⟨#[]⟩)).1)
          have hbs := Lib.hid ((hbr.setCell (p := ⟨g5, k * 2, none⟩) hq5 (.int .i64 0)).setCell (p := ⟨g5, k * 2 + 1, none⟩) hq5 (.string ⟨#[]⟩))
          have hos := Lib.hid ((hoff.trans (Off.set (A := wr) (g := g5) (i := k * 2) (.int .i64 0))).trans (Off.set (g := g5) (i := k * 2 + 1) (.string ⟨#[]⟩)))
          generalize ys[k * 2] = old at hcl
          generalize ys[k * 2 + 1] = old1 at hcl1
          clear own hln hoff hbr
          go_wp2
          go_roundw
          case rel => exact ⟨k + 1, by omega, by go_num, ⟨_, hst.out⟩, hos.out, hbs.out⟩
          case measure => simp [intOf]; omega
        · have K9 := K8h.out.under hbr (by omega) hg6
          have OB9 := Lib.hid (off_own OB8.out hoff (fun k e e' => hAB.out k e e'))
          have z9 := hoff.size
          have OAr := Lib.hid own
          have hzr : w6.heap.size ≤ wr.heap.size := by omega
          clear own hoff hbr K8h OB8 OA8
          go_upto_region 16 with (at_builtin; go_loud (refine wpList_append_at _ rfl (.tmp 59) (.tmp 62) elemF rfl w6.heap.size (.slice aa fl.length ca) fl.length ys rfl (OAr.out.alloc _) (some ⟨wr.heap.size, 0, none⟩) 2 2 [.int .i64 0, .string ⟨#[]⟩, .int .i64 0, .string ⟨#[]⟩] rfl rfl (at_alloc wr #[.int .i64 0, .string ⟨#[]⟩, .int .i64 0, .string ⟨#[]⟩] _ _) (one_fcells [(0, []), (0, [])]) (by unfold maxLen; omega) (by omega) (by simp; omega) ?_); intro v10 w10 own10 bel10 gr10 _; obtain ⟨a10, c10, rfl, _, hc10, _, _, _⟩ := at_of_owns own10)
          have K10 := ((K9.keep ((Below.refl _ _).alloc (Nat.le_refl _) (.cells #[.int .i64 0, .string ⟨#[]⟩, .int .i64 0, .string ⟨#[]⟩] 41))).under bel10 (by omega) hg6)
          have OB10 := Lib.hid (off_own (OB9.out.alloc (.cells #[.int .i64 0, .string ⟨#[]⟩, .int .i64 0, .string ⟨#[]⟩] 41)) (Off.grown gr10 bel10.size) (fun k e e' => hAB.out k e e'))
          clear K9 OB9 OAr own10 bel10 gr10
          go_upto_region 17 with (first
            | ((with_reducible refine wpList_load_box rfl 23 (.tmp 2) rfl K10.X Tryd.underlying23 ?_ ?_ ?_ ?_); (· rfl); (· exact size12 _); (· rfl))
            | (go_at_call 8; refine (E4.out _).mono ?_; rintro e w11 ⟨ac, cc, rfl, own11, b11⟩; have K11 := K10.keep b11; have OB11 := Lib.hid (owns_below OB10.out b11); have OC11 := Lib.hid own11))
          clear K10 OB10 own11 b11 E4
          have Kl := K11.last
          have Q1 := Lib.hid (fun W h1 h2 => same_calls (some ⟨g, 0, none⟩) a c3 cap fs fs W (by omega) (by omega) h1 h2)
          have Q2 := Lib.hid (fun W h1 h2 => same_calls ab ac cb cc fl fl W (by omega) (by omega) h1 h2)
          have hge : (2 : Int) ≤ (fl.length : Int) + 2 := by omega
          obtain ⟨_, _, e, _, _, atb, _, _⟩ := at_of_owns OB11.out
          cases e
          obtain ⟨_, _, e, _, _, atc, _, _⟩ := at_of_owns OC11.out
          cases e
          have Hm := K11.mine
          have Ha := K11.H.at_
          have Hlow := Lib.hid K11.H.low
          clear K11 OB11 OC11
          go_wp2_with (first
            | (go_at_call 13; refine (Q1.out _ (by first | exact Hm | exact Hm.drewN _) (by first | exact Ha | exact Ha.drewN _)).mono ?_; rintro e w12 ⟨rfl, n12, rfl⟩; clear Q1)
            | (go_at_call 13; refine (Q2.out _ (by first | exact atb | exact atb.drewN _) (by first | exact atc | exact atc.drewN _)).mono ?_; rintro e w13 ⟨rfl, n13, rfl⟩; clear Q2))
          go_ret
          exact ⟨ret_bool (by simp), below_drewN Hlow.out _⟩
set_option maxRecDepth 100000 in
theorem opened (H : Type) (enc : TypeId × Value → H) (W : World) (base : Nat) (args : Array Value) (ds : List (DataW H)) (p : List MemPlace)
    (hval : ∀ (j : Nat) t v, Tryd.f5.params[j]? = some t → args[j]? = some v → Value.okWide Tryd.prog W .any base t v)
    (hA : DataW.TrodAll enc Tryd.prog W 0 (fun _ => true) true Tryd.f5.params.toList args.toList ds p)
    (hr : ∀ x ∈ DataW.weightsEach Tryd.prog Tryd.f5.params.toList ds, x ≤ reachBytes)
    (hL : laidMetH Tryd.prog Rows.portKeepsRow.laid W) :
    Calls Tryd.prog 5 args W fun e W' => e = .returned (.bool true) ∧ Below W.heap.size W W' := by
  rw [Tryd.params5] at hA hval hr
  obtain ⟨v0, vs0, d0, ds0, p0, q0, hargs, rfl, rfl, h0, r0⟩ := trodAll_cons hA
  obtain ⟨v1, vs1, d1, ds1, p1, q1, rfl, rfl, rfl, h1, r1⟩ := trodAll_cons r0
  obtain ⟨rfl, rfl, rfl⟩ := trodAll_nil r1
  obtain rfl : args = #[v0, v1] := by cases args; simp_all
  obtain ⟨x, rfl, hk, hn⟩ := open_event (hval 0 23 v0 rfl rfl) h0
  obtain ⟨a, fs, cap, rfl, hat, hc, hm, hok⟩ := open_fieldsArg (hval 1 28 v1 rfl rfl) h1 (fun y hy => hr y (by simp [DataW.weightsEach, hy]))
  exact walk x fs a cap W hk hn (by omega) (fun f hf => (hok f hf).2) hat (pow_laid7 hL)
end Go.Proofs.YtbpndiegbfpigaaDoor.portKeeps
