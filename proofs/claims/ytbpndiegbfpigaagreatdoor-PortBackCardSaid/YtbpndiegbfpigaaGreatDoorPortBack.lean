/- PortBack: the walk, and the step from the law's arguments to it. -/
import Derived.Test.YtbpndiegbfpigaaGreatDoorPortReplies
import Derived.Test.YtbpndiegbfpigaaGreatDoorPortOwn
import Derived.Test.YtbpndiegbfpigaaGreatDoorPortLong
namespace Go.Proofs.YtbpndiegbfpigaaGreatDoor.portBack
open Go.ChangeShapes Go.WideShapes Go.ChangeAt Go.RowKit Go.Proofs.YtbpndiegbfpigaaGreatDoor.Bas Go.Proofs.YtbpndiegbfpigaaGreatDoor.DecM Go.Proofs.YtbpndiegbfpigaaGreatDoor.FixpM Go.Proofs.YtbpndiegbfpigaaGreatDoor.FixpW Go.Proofs.YtbpndiegbfpigaaGreatDoor.DecW Go.Proofs.YtbpndiegbfpigaaGreatDoor.FldW Go.Proofs.YtbpndiegbfpigaaGreatDoor.PortM Go.Proofs.YtbpndiegbfpigaaGreatDoor.PortW Go.Proofs.YtbpndiegbfpigaaGreatDoor.TagM Go.Proofs.YtbpndiegbfpigaaGreatDoor.TagW Go.Proofs.YtbpndiegbfpigaaGreatDoor.portReplies

theorem neq_ev (x : Ev) (W : World) : (binOp .neq 23 (.agg (#[.int .i64 x.kind, .int .i64 x.acct, .int .i64 x.id, .int .i64 x.new, .int .i64 x.instr, .int .i64 x.under, .int .i64 x.cur, .int .i64 x.qty, .int .i64 x.price, .int .i64 x.amount, .bool x.call, .string ⟨x.name.toArray⟩])) (.agg (Ev.cells x))).run Tryz.prog W = .ok (.bool false) W := by
  simp [go_sem, Ev.cells]
theorem eql_zero (W : World) : (binOp .eql 23 (.agg (Ev.cells Ev.zero)) (.agg #[.int .i64 0, .int .i64 0, .int .i64 0, .int .i64 0, .int .i64 0, .int .i64 0, .int .i64 0, .int .i64 0, .int .i64 0, .int .i64 0, .bool false, .string ⟨#[]⟩])).run Tryz.prog W = .ok (.bool true) W := by
  simp [go_sem, Ev.cells, Ev.zero]
theorem fieldsR_len (v : Ev) : (fieldsR v).1.length ≤ 7 := by
  unfold fieldsR
  have := tagsF_len v.kind
  split
  · simp
  · split <;> simp [outF]; omega
theorem short_sum {L : List Fld} (h : L.length ≤ 7) (hs : ∀ f ∈ L, f.2.length ≤ 1024) : sumL L ≤ 140737488355328 := by
  have key : ∀ l : List Fld, (∀ f ∈ l, f.2.length ≤ 1024) → sumL l ≤ l.length * 1030 := by
    intro l
    induction l with
    | nil => simp [sumL]
    | cons f l ih =>
      intro h
      have h1 := h f List.mem_cons_self
      have h2 := ih (fun g hg => h g (List.mem_cons_of_mem _ hg))
      unfold sumL at h2 ⊢
      simp only [List.map_cons, List.sum_cons, List.length_cons]
      omega
  have := key L hs
  omega
/-- what came in stays -/
structure HoldB (w W : World) (v : Ev) (a : Option Addr) (fs : List Fld) : Prop where
  bv : Box W w.heap.size 23 (Ev.cells v)
  at_ : At W a (fcells fs)
  low : Below w.heap.size w W
  ab : ∀ b off s, a = some ⟨b, off, s⟩ → fcells fs ≠ [] → b < w.heap.size
theorem HoldB.keep {w W W' : World} {v : Ev} {a : Option Addr} {fs : List Fld} (h : HoldB w W v a fs) (hb : Below W.heap.size W W') : HoldB w W' v a fs := ⟨h.bv.keep hb, h.at_.keep hb, h.low.trans (hb.mono h.low.size), h.ab⟩
theorem HoldB.alloc {w W : World} {v : Ev} {a : Option Addr} {fs : List Fld} (h : HoldB w W v a fs) (o : Obj) : HoldB w (W.alloc o) v a fs := h.keep ((Below.refl _ _).alloc (Nat.le_refl _) _)
theorem HoldB.drewN {w W : World} {v : Ev} {a : Option Addr} {fs : List Fld} (h : HoldB w W v a fs) (n : Nat) : HoldB w (W.drewN n) v a fs := ⟨h.bv, h.at_, below_drewN h.low n, h.ab⟩
theorem HoldB.drew {w W : World} {v : Ev} {a : Option Addr} {fs : List Fld} (h : HoldB w W v a fs) : HoldB w W.drew v a fs := ⟨h.bv, h.at_, h.low.drew, h.ab⟩
theorem HoldB.row {w W : World} {v : Ev} {a : Option Addr} {fs : List Fld} (h : HoldB w W v a fs) {g : Nat} (hg : w.heap.size < g) (C : Array Value) : HoldB w (W.setRow g C) v a fs := by
  refine ⟨h.bv.farRow (by omega) C, ?_, below_setRow h.low (by omega) C, h.ab⟩
  by_cases hn : fcells fs = []
  · rw [hn]; exact At.nil _ _
  · exact at_setRow h.at_ (fun b off s e => by have := h.ab b off s e hn; omega) C
set_option maxHeartbeats 4000000 in
set_option maxRecDepth 20000 in
theorem walk (v : Ev) (fs : List Fld) (a : Option Addr) (cap : Nat) (w : World) (hk : I64 v.kind) (hn : ∀ t, I64 (num v t)) (hl : fs.length ≤ 5864062014806) (hok : ∀ f ∈ fs, f.2.length ≤ 140737488351232) (hat : At w a (fcells fs)) (ht : Pow w) :
    Calls Tryz.prog 3 #[.agg (Ev.cells v), .slice a fs.length cap] w fun e w' => e = .returned (.bool true) ∧ Below w.heap.size w w' := by
  have HT := Lib.hid ht
  have C0 := Lib.hid (fun W (h : Pow W) => wakes_calls W h)
  have C1 := Lib.hid (fun W h => long_calls fs a cap W (by omega) hok h)
  have H0 : HoldB w (w.alloc (.cells (Ev.cells v) 23)) v a fs := ⟨Box.new w _ _, hat.keep ((Below.refl _ _).alloc (Nat.le_refl _) _), (Below.refl _ _).alloc (Nat.le_refl _) _, hat.lt⟩
  have HO := Lib.hid hok
  clear ht hat hok
  go_enter Tryz.func3, Tryz.ntmps3
  go_upto_region 1 with fail
  generalize w.alloc (.cells (Ev.cells v) 23) = w0 at *
  by_cases hbig : 16384 < tot fs
  · rw [decide_eq_true hbig] at C1
    clear hbig
    go_wp2_with (first
      | (go_at_call 5; refine (C0.out _ (HT.out.keep H0.low)).mono ?_; rintro e w1 ⟨rfl, b1⟩; have H1 := H0.keep b1)
      | (go_at_call 6; refine (C1.out _ H1.at_).mono ?_; rintro e w2 ⟨rfl, b2⟩; have H2 := H1.keep b2))
    go_ret
    exact ⟨rfl, H2.low⟩
  · rw [decide_eq_false hbig] at C1
    clear hbig
    by_cases hnm : 1024 < v.name.length
    · have hnm' : (1024 : Int) < (v.name.length : Int) := by omega
      clear hnm
      go_wp2_with (first
        | (go_at_call 5; refine (C0.out _ (HT.out.keep H0.low)).mono ?_; rintro e w1 ⟨rfl, b1⟩; have H1 := H0.keep b1)
        | (go_at_call 6; refine (C1.out _ H1.at_).mono ?_; rintro e w2 ⟨rfl, b2⟩; have H2 := H1.keep b2; have hd : w2.cell? ⟨w.heap.size, 11, none⟩ = some (.string ⟨v.name.toArray⟩) := H2.bv.cell 11))
      go_ret
      exact ⟨rfl, H2.low⟩
    · have hnm' : ¬ (1024 : Int) < (v.name.length : Int) := by omega
      have HF := Lib.hid (⟨hn, hk, by omega⟩ : Ev.Fine v)
      have hnm2 : v.name.length ≤ 1024 := by omega
      clear hnm
      go_upto_region 5 with (first
        | (go_at_call 5; refine (C0.out _ (HT.out.keep H0.low)).mono ?_; rintro e w1 ⟨rfl, b1⟩; have H1 := H0.keep b1)
        | (go_at_call 6; refine (C1.out _ H1.at_).mono ?_; rintro e w2 ⟨rfl, b2⟩; have H2 := H1.keep b2; have hd : w2.cell? ⟨w.heap.size, 11, none⟩ = some (.string ⟨v.name.toArray⟩) := H2.bv.cell 11))
      clear C0 C1 H0 H1 b1 b2 hd hnm'
      have F1 := Lib.hid (fun W h => fields_calls v W HF.out h)
      have O1 := Lib.hid (fun W => own_calls v W)
      have G1 := Lib.hid (fun h => fields_short hnm2 h)
      have G2 := Lib.hid (fun h => @event_of_fields v h)
      have G3 := Lib.hid (fun h => valid_of_fields hnm2 h)
      have hlen := fieldsR_len v
      obtain ⟨⟨fl, fe⟩, hfr⟩ : ∃ fr, fieldsR v = fr := ⟨_, rfl⟩
      rw [hfr] at F1 G1 G2 G3 hlen
      simp only at F1 G1 G2 G3 hlen
      clear hfr
      go_upto_region 6 with (first
        | ((with_reducible refine wpList_load_box rfl 23 (.tmp 2) rfl H2.bv Tryz.underlying23 ?_ ?_ ?_ ?_); (· rfl); (· exact size12 _); (· rfl))
        | (go_at_call 7; refine (F1.out _ (HT.out.keep H2.low)).mono ?_; rintro e w3 ⟨aa, ca, rfl, own3, b3⟩; have H3 := H2.keep b3; obtain ⟨_, _, e9, _, _, ata, _, _⟩ := at_of_owns own3; cases e9))
      clear H2 own3 b3 F1
      have er := fun (h : (eventR fs).2 = 0) => fields_of_event (fs := fs) (x := (eventR fs).1) (by rw [← h])
      have ef := fun (h : (eventR fs).2 = 0) => fine_of_event (fs := fs) (x := (eventR fs).1) HO.out (by rw [← h])
      have ez := fun (h : (eventR fs).2 ≠ 0) => event_zero h
      have E2 := fun W h => event_calls fs a cap W (by omega) HO.out h
      generalize eventR fs = yr at *
      obtain ⟨y, ye⟩ := yr
      simp only at er ef ez E2
      have R1 : Hid (ye = 0 → Ev.Fine y) := fun h => ⟨(ef h).2.1, (ef h).1, (ef h).2.2⟩
      have R2 := Lib.hid er
      have R3 := Lib.hid ez
      have E2 := Lib.hid E2
      clear er ef ez
      by_cases hfe : fe = 0
      · subst hfe
        have hev := G2.out rfl
        have hsh := G1.out rfl
        have hva := G3.out rfl
        have E1 := fun W h => event_calls fl aa ca W (by omega) (fun f hf => Nat.le_trans (hsh f hf) (by decide)) h
        have V1 := fun W h hp => valid_calls fl aa ca W (short_sum hlen hsh) (by omega) h hp
        rw [hev] at E1
        rw [hva] at V1
        simp only at E1
        generalize ownF v = x at *
        have E1 := Lib.hid E1
        have V1 := Lib.hid V1
        clear hev hsh hva G1 G2 G3
        go_upto_region 8 with (first
          | (go_at_call 8; refine (E1.out _ ata).mono ?_; rintro e w4 ⟨rfl, b4⟩; have H4 := H3.keep b4; have at4 := ata.keep b4; have z4 := H4.bv.lt; have za := at4.lt; clear E1)
          | ((with_reducible refine wpList_store_box rfl 23 (.tmp 7) (.tmp 32) rfl (Ev.cells x) (Box.new w4 23 #[.int .i64 0, .int .i64 0, .int .i64 0, .int .i64 0, .int .i64 0, .int .i64 0, .int .i64 0, .int .i64 0, .int .i64 0, .int .i64 0, .bool false, .string ⟨#[]⟩]) ?_ ?_ ?_ ?_ ?_ ?_); (· exact size12 _); (· rfl); (· exact ev_one _); (· rfl); (· rfl); skip))
        have H5 := (H4.alloc (.cells #[.int .i64 0, .int .i64 0, .int .i64 0, .int .i64 0, .int .i64 0, .int .i64 0, .int .i64 0, .int .i64 0, .int .i64 0, .int .i64 0, .bool false, .string ⟨#[]⟩] 23)).row (g := w4.heap.size) z4 (Ev.cells x)
        have X5 := Box.row (Box.new w4 23 #[.int .i64 0, .int .i64 0, .int .i64 0, .int .i64 0, .int .i64 0, .int .i64 0, .int .i64 0, .int .i64 0, .int .i64 0, .int .i64 0, .bool false, .string ⟨#[]⟩]) (Ev.cells x)
        have at5 : At ((w4.alloc (.cells #[.int .i64 0, .int .i64 0, .int .i64 0, .int .i64 0, .int .i64 0, .int .i64 0, .int .i64 0, .int .i64 0, .int .i64 0, .int .i64 0, .bool false, .string ⟨#[]⟩] 23)).setRow w4.heap.size (Ev.cells x)) aa (fcells fl) := by
          by_cases hn : fcells fl = []
          · rw [hn]; exact At.nil _ _
          · exact at_setRow (at4.keep ((Below.refl _ _).alloc (Nat.le_refl _) _)) (fun b off s e => by have := za b off s e hn; omega) _
        generalize (w4.alloc (.cells #[.int .i64 0, .int .i64 0, .int .i64 0, .int .i64 0, .int .i64 0, .int .i64 0, .int .i64 0, .int .i64 0, .int .i64 0, .int .i64 0, .bool false, .string ⟨#[]⟩] 23)).setRow w4.heap.size (Ev.cells x) = W5 at *
        generalize w4.heap.size = g5 at *
        clear H3 H4 at4 z4 za ata b4
        have hq := fun W => neq_ev x W
        obtain ⟨e0, e1, e2, e3, e4, e5, e6, e7, e8, e9, e10, e11⟩ := H5.bv.cells12
        obtain ⟨p0, p1, p2, p3, p4, p5, p6, p7, p8, p9, p10, p11⟩ := X5.cells12
        go_cut [46] from 34 (fun b wx => b = .bool false ∧ HoldB w wx v a fs)
        case first =>
          go_region_with (first
            | (go_at_call 9; refine (O1.out _).mono ?_; rintro e w6 ⟨rfl, b6⟩; have H6 : HoldB w w6 v a fs := (by first | exact H5.keep b6 | exact H5.drew.keep b6 | exact (H5.drewN _).keep b6 | exact H7.keep b6 | exact H7.drew.keep b6 | exact (H7.drewN _).keep b6); have X6 : Box w6 g5 23 (Ev.cells x) := (by first | exact X5.keep b6 | exact box_first X5 b6 | exact Box.keep (w := W5.drew) X5 b6 | exact X7.keep b6 | exact box_first X7 b6 | exact Box.keep (w := w7.drew) X7 b6); have at6 : At w6 aa (fcells fl) := (by first | exact at5.keep b6 | exact at_first at5 b6 | exact At.keep (w := W5.drew) at5 b6 | exact at7.keep b6 | exact at_first at7 b6 | exact At.keep (w := w7.drew) at7 b6); obtain ⟨y0, y1, y2, y3, y4, y5, y6, y7, y8, y9, y10, y11⟩ := X6.cells12)
            | (go_at_call 10; refine (V1.out _ (by first | exact at5 | exact at6 | exact at5.drewN _ | exact at6.drewN _) (by first | exact HT.out.keep H5.low | exact HT.out.keep H6.low | exact HT.out.keep (H5.drewN _).low | exact HT.out.keep (H6.drewN _).low | exact HT.out.keep H5.drew.low | exact HT.out.keep H6.drew.low)).mono ?_; rintro e w7 ⟨rfl, b7⟩; have H7 : HoldB w w7 v a fs := (by first | exact H5.keep b7 | exact H5.drew.keep b7 | exact (H5.drewN _).keep b7 | exact H6.keep b7 | exact H6.drew.keep b7 | exact (H6.drewN _).keep b7); have X7 : Box w7 g5 23 (Ev.cells x) := (by first | exact X5.keep b7 | exact box_first X5 b7 | exact Box.keep (w := W5.drew) X5 b7 | exact X6.keep b7 | exact box_first X6 b7 | exact Box.keep (w := w6.drew) X6 b7); have at7 : At w7 aa (fcells fl) := (by first | exact at5.keep b7 | exact at_first at5 b7 | exact At.keep (w := W5.drew) at5 b7 | exact at6.keep b7 | exact at_first at6 b7 | exact At.keep (w := w6.drew) at6 b7); obtain ⟨x0, x1, x2, x3, x4, x5, x6, x7, x8, x9, x10, x11⟩ := X7.cells12; obtain ⟨u0, u1, u2, u3, u4, u5, u6, u7, u8, u9, u10, u11⟩ := H7.bv.cells12))
          all_goals
            go_wp2_with fail
            go_meet
            exact ⟨rfl, by first | exact H7 | exact H6 | exact H7.drewN _ | exact H6.drewN _ | exact H7.drew | exact H6.drew⟩
        case rest =>
          obtain ⟨rfl, HC⟩ := hcut
          clear H5 X5 at5 e0 e1 e2 e3 e4 e5 e6 e7 e8 e9 e10 e11 p0 p1 p2 p3 p4 p5 p6 p7 p8 p9 p10 p11 V1 O1 hq
          have hz := HoldB.low HC
          go_upto_region 11 with (first
            | (go_at_call 8; refine (E2.out _ (HoldB.at_ HC)).mono ?_; rintro e w8 ⟨rfl, b8⟩; have H8 := HoldB.keep HC b8; have z8 := H8.bv.lt; clear E2)
            | ((with_reducible refine wpList_store_box rfl 23 (.tmp 9) (.tmp 50) rfl (Ev.cells y) (Box.new w8 23 #[.int .i64 0, .int .i64 0, .int .i64 0, .int .i64 0, .int .i64 0, .int .i64 0, .int .i64 0, .int .i64 0, .int .i64 0, .int .i64 0, .bool false, .string ⟨#[]⟩]) ?_ ?_ ?_ ?_ ?_ ?_); (· exact size12 _); (· rfl); (· exact ev_one _); (· rfl); (· rfl); skip))
          have H9 := (H8.alloc (.cells #[.int .i64 0, .int .i64 0, .int .i64 0, .int .i64 0, .int .i64 0, .int .i64 0, .int .i64 0, .int .i64 0, .int .i64 0, .int .i64 0, .bool false, .string ⟨#[]⟩] 23)).row (g := w8.heap.size) z8 (Ev.cells y)
          have X9 := Box.row (Box.new w8 23 #[.int .i64 0, .int .i64 0, .int .i64 0, .int .i64 0, .int .i64 0, .int .i64 0, .int .i64 0, .int .i64 0, .int .i64 0, .int .i64 0, .bool false, .string ⟨#[]⟩]) (Ev.cells y)
          generalize (w8.alloc (.cells #[.int .i64 0, .int .i64 0, .int .i64 0, .int .i64 0, .int .i64 0, .int .i64 0, .int .i64 0, .int .i64 0, .int .i64 0, .int .i64 0, .bool false, .string ⟨#[]⟩] 23)).setRow w8.heap.size (Ev.cells y) = W9 at *
          generalize w8.heap.size = g9 at *
          clear H8 b8 z8 hz
          by_cases hye : ye = 0
          · subst hye
            have hfine := R1.out rfl
            have F2 := Lib.hid (fun W h => fields_calls y W hfine h)
            rcases R2.out rfl with hb | ⟨hb1, hb2, hb3⟩
            · rw [hb] at F2
              have F2 := Lib.hid (fun W h => F2.out W h)
              have Q := Lib.hid (fun a1 c1 W h1 h2 => same_calls a1 a c1 cap fs fs W (by omega) (by omega) h1 h2)
              clear hb R1 R2 R3 hfine
              go_wp2_with (first
                | ((with_reducible refine wpList_load_box rfl 23 (.tmp 9) rfl X9 Tryz.underlying23 ?_ ?_ ?_ ?_); (· rfl); (· exact size12 _); (· rfl))
                | (go_at_call 7; refine (F2.out _ (HT.out.keep H9.low)).mono ?_; rintro e w10 ⟨ab, cb, rfl, own10, b10⟩; have H10 := H9.keep b10; obtain ⟨_, _, e9, _, _, atb, _, _⟩ := at_of_owns own10; cases e9)
                | (go_at_call 11; refine (Q.out _ _ _ atb H10.at_).mono ?_; rintro e w11 ⟨rfl, n11, rfl⟩))
              go_ret
              exact ⟨ret_bool (by simp), below_drewN H10.low _⟩
            · generalize hfr : fieldsR y = fr at *
              obtain ⟨gl, ge⟩ := fr
              simp only at hb1 hb2
              subst hb1 hb2
              simp only at F2
              have F2 := Lib.hid (fun W h => F2.out W h)
              have hem : (y.name == []) = false := by simpa using hb3
              have hem2 : y.name.isEmpty = false := by simp [hb3]
              clear hfr R1 R2 R3 hfine hb3
              go_wp2_with (first
                | ((with_reducible refine wpList_load_box rfl 23 (.tmp 9) rfl X9 Tryz.underlying23 ?_ ?_ ?_ ?_); (· rfl); (· exact size12 _); (· rfl))
                | (go_at_call 7; refine (F2.out _ (HT.out.keep H9.low)).mono ?_; rintro e w10 ⟨ab, cb, rfl, own10, b10⟩; have H10 := H9.keep b10; have n0 : w10.cell? ⟨g9, 11, none⟩ = some (.string ⟨y.name.toArray⟩) := (X9.keep b10).cell 11))
              go_ret
              exact ⟨ret_bool (by simp), H10.low⟩
          · have hy := R3.out hye
            subst hy
            have hye1 : (ye != 0) = true := by simpa using hye
            have hq := fun W => eql_zero W
            clear R1 R2 R3 hye
            go_wp2_with (first | ((with_reducible refine wpList_load_box rfl 23 (.tmp 9) rfl X9 Tryz.underlying23 ?_ ?_ ?_ ?_); (· rfl); (· exact size12 _); (· rfl)))
            go_ret
            exact ⟨rfl, H9.low⟩
      · have hfe1 : (fe == 0) = false := by simpa using hfe
        clear hfe G1 G2 G3 ata O1
        have hz := HoldB.low H3
        go_upto_region 11 with (first
          | (go_at_call 8; refine (E2.out _ (HoldB.at_ H3)).mono ?_; rintro e w8 ⟨rfl, b8⟩; have H8 := HoldB.keep H3 b8; have z8 := H8.bv.lt; clear E2)
          | ((with_reducible refine wpList_store_box rfl 23 (.tmp 9) (.tmp 50) rfl (Ev.cells y) (Box.new w8 23 #[.int .i64 0, .int .i64 0, .int .i64 0, .int .i64 0, .int .i64 0, .int .i64 0, .int .i64 0, .int .i64 0, .int .i64 0, .int .i64 0, .bool false, .string ⟨#[]⟩]) ?_ ?_ ?_ ?_ ?_ ?_); (· exact size12 _); (· rfl); (· exact ev_one _); (· rfl); (· rfl); skip))
        have H9 := (H8.alloc (.cells #[.int .i64 0, .int .i64 0, .int .i64 0, .int .i64 0, .int .i64 0, .int .i64 0, .int .i64 0, .int .i64 0, .int .i64 0, .int .i64 0, .bool false, .string ⟨#[]⟩] 23)).row (g := w8.heap.size) z8 (Ev.cells y)
        have X9 := Box.row (Box.new w8 23 #[.int .i64 0, .int .i64 0, .int .i64 0, .int .i64 0, .int .i64 0, .int .i64 0, .int .i64 0, .int .i64 0, .int .i64 0, .int .i64 0, .bool false, .string ⟨#[]⟩]) (Ev.cells y)
        generalize (w8.alloc (.cells #[.int .i64 0, .int .i64 0, .int .i64 0, .int .i64 0, .int .i64 0, .int .i64 0, .int .i64 0, .int .i64 0, .int .i64 0, .int .i64 0, .bool false, .string ⟨#[]⟩] 23)).setRow w8.heap.size (Ev.cells y) = W9 at *
        generalize w8.heap.size = g9 at *
        clear H8 b8 z8 hz
        by_cases hye : ye = 0
        · subst hye
          have hfine := R1.out rfl
          have F2 := Lib.hid (fun W h => fields_calls y W hfine h)
          rcases R2.out rfl with hb | ⟨hb1, hb2, hb3⟩
          · rw [hb] at F2
            have F2 := Lib.hid (fun W h => F2.out W h)
            have Q := Lib.hid (fun a1 c1 W h1 h2 => same_calls a1 a c1 cap fs fs W (by omega) (by omega) h1 h2)
            clear hb R1 R2 R3 hfine
            go_wp2_with (first
              | ((with_reducible refine wpList_load_box rfl 23 (.tmp 9) rfl X9 Tryz.underlying23 ?_ ?_ ?_ ?_); (· rfl); (· exact size12 _); (· rfl))
              | (go_at_call 7; refine (F2.out _ (HT.out.keep H9.low)).mono ?_; rintro e w10 ⟨ab, cb, rfl, own10, b10⟩; have H10 := H9.keep b10; obtain ⟨_, _, e9, _, _, atb, _, _⟩ := at_of_owns own10; cases e9)
              | (go_at_call 11; refine (Q.out _ _ _ atb H10.at_).mono ?_; rintro e w11 ⟨rfl, n11, rfl⟩))
            go_ret
            exact ⟨ret_bool (by simp), below_drewN H10.low _⟩
          · generalize hfr : fieldsR y = fr at *
            obtain ⟨gl, ge⟩ := fr
            simp only at hb1 hb2
            subst hb1 hb2
            simp only at F2
            have F2 := Lib.hid (fun W h => F2.out W h)
            have hem : (y.name == []) = false := by simpa using hb3
            have hem2 : y.name.isEmpty = false := by simp [hb3]
            clear hfr R1 R2 R3 hfine hb3
            go_wp2_with (first
              | ((with_reducible refine wpList_load_box rfl 23 (.tmp 9) rfl X9 Tryz.underlying23 ?_ ?_ ?_ ?_); (· rfl); (· exact size12 _); (· rfl))
              | (go_at_call 7; refine (F2.out _ (HT.out.keep H9.low)).mono ?_; rintro e w10 ⟨ab, cb, rfl, own10, b10⟩; have H10 := H9.keep b10; have n0 : w10.cell? ⟨g9, 11, none⟩ = some (.string ⟨y.name.toArray⟩) := (X9.keep b10).cell 11))
            go_ret
            exact ⟨ret_bool (by simp), H10.low⟩
        · have hy := R3.out hye
          subst hy
          have hye1 : (ye != 0) = true := by simpa using hye
          have hq := fun W => eql_zero W
          clear R1 R2 R3 hye
          go_wp2_with (first | ((with_reducible refine wpList_load_box rfl 23 (.tmp 9) rfl X9 Tryz.underlying23 ?_ ?_ ?_ ?_); (· rfl); (· exact size12 _); (· rfl)))
          go_ret
          exact ⟨rfl, H9.low⟩
set_option maxRecDepth 100000 in
theorem opened (H : Type) (enc : TypeId × Value → H) (W : World) (base : Nat) (args : Array Value) (ds : List (DataW H)) (p : List MemPlace)
    (hval : ∀ (j : Nat) t v, Tryz.f3.params[j]? = some t → args[j]? = some v → Value.okWide Tryz.prog W .any base t v)
    (hA : DataW.TrodAll enc Tryz.prog W 0 (fun _ => true) true Tryz.f3.params.toList args.toList ds p)
    (hr : ∀ x ∈ DataW.weightsEach Tryz.prog Tryz.f3.params.toList ds, x ≤ reachBytes)
    (hL : laidMetH Tryz.prog Rows.portBackRow.laid W) :
    Calls Tryz.prog 3 args W fun e W' => e = .returned (.bool true) ∧ Below W.heap.size W W' := by
  rw [Tryz.params3] at hA hval hr
  obtain ⟨v0, vs0, d0, ds0, p0, q0, hargs, rfl, rfl, h0, r0⟩ := trodAll_cons hA
  obtain ⟨v1, vs1, d1, ds1, p1, q1, rfl, rfl, rfl, h1, r1⟩ := trodAll_cons r0
  obtain ⟨rfl, rfl, rfl⟩ := trodAll_nil r1
  obtain rfl : args = #[v0, v1] := by cases args; simp_all
  obtain ⟨x, rfl, hk, hn⟩ := open_event (hval 0 23 v0 rfl rfl) h0
  obtain ⟨a, fs, cap, rfl, hat, hc, hm, hok⟩ := open_fieldsArg (hval 1 24 v1 rfl rfl) h1 (fun y hy => hr y (by simp [DataW.weightsEach, hy]))
  exact walk x fs a cap W hk hn (by omega) (fun f hf => (hok f hf).2) hat (pow_laid8 hL)
end Go.Proofs.YtbpndiegbfpigaaGreatDoor.portBack
