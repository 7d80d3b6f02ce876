/- The walk of the document's Own. -/
import Derived.Test.YtbpndiegbfpigaaGreatDoorPortBackMath2
import Derived.Test.YtbpndiegbfpigaaGreatDoorPortEvent
namespace Go.Proofs.YtbpndiegbfpigaaGreatDoor.PortW
open Go.RowKit Go.Proofs.YtbpndiegbfpigaaGreatDoor.Bas Go.Proofs.YtbpndiegbfpigaaGreatDoor.DecM Go.Proofs.YtbpndiegbfpigaaGreatDoor.FixpM Go.Proofs.YtbpndiegbfpigaaGreatDoor.FixpW Go.Proofs.YtbpndiegbfpigaaGreatDoor.DecW Go.Proofs.YtbpndiegbfpigaaGreatDoor.FldW Go.Proofs.YtbpndiegbfpigaaGreatDoor.PortM

/-- what stays while an event is cut down to its own -/
structure HoldO (w W : World) (v : Ev) (g2 : Nat) (a7 : Option Addr) (ts : List Int) : Prop where
  bv : Box W w.heap.size 23 (Ev.cells v)
  br : Box W g2 23 (Ev.cells Ev.zero)
  at_ : At W a7 (i64s ts)
  low : Below w.heap.size w W
theorem HoldO.keep {w W W' : World} {v : Ev} {g2 : Nat} {a7 : Option Addr} {ts : List Int} (h : HoldO w W v g2 a7 ts) (hb : Below W.heap.size W W') : HoldO w W' v g2 a7 ts := ⟨h.bv.keep hb, h.br.keep hb, h.at_.keep hb, h.low.trans (hb.mono h.low.size)⟩
theorem HoldO.drewN {w W : World} {v : Ev} {g2 : Nat} {a7 : Option Addr} {ts : List Int} (h : HoldO w W v g2 a7 ts) (n : Nat) : HoldO w (W.drewN n) v g2 a7 ts := ⟨h.bv, h.br, h.at_, below_drewN h.low n⟩
theorem HoldO.drew {w W : World} {v : Ev} {g2 : Nat} {a7 : Option Addr} {ts : List Int} (h : HoldO w W v g2 a7 ts) : HoldO w W.drew v g2 a7 ts := ⟨h.bv, h.br, h.at_, h.low.drew⟩
theorem HoldO.set {w W : World} {v : Ev} {g2 g3 : Nat} {a7 : Option Addr} {ts : List Int} (h : HoldO w W v g2 a7 ts) (h1 : w.heap.size < g3) (h2 : g2 ≠ g3) (h7 : ∀ b off s, a7 = some ⟨b, off, s⟩ → b ≠ g3) (i : Nat) (u : Value) : HoldO w (W.setCell ⟨g3, i, none⟩ u) v g2 a7 ts :=
  ⟨h.bv.far (p := ⟨g3, i, none⟩) (by simp; omega) u, h.br.far (p := ⟨g3, i, none⟩) h2 u, h.at_.setCell h7 u, h.low.setCell (p := ⟨g3, i, none⟩) (by simp; omega) u⟩
theorem HoldO.set12 {w W : World} {v : Ev} {g2 g : Nat} {a7 : Option Addr} {ts : List Int} (h : HoldO w W v g2 a7 ts) (h1 : w.heap.size < g) (h2 : g2 ≠ g) (h7 : ∀ b off s, a7 = some ⟨b, off, s⟩ → b ≠ g) (x : Ev) : HoldO w ((((((((((((W.setCell ⟨g, 0, none⟩ (.int .i64 x.kind)).setCell ⟨g, 1, none⟩ (.int .i64 x.acct)).setCell ⟨g, 2, none⟩ (.int .i64 x.id)).setCell ⟨g, 3, none⟩ (.int .i64 x.new)).setCell ⟨g, 4, none⟩ (.int .i64 x.instr)).setCell ⟨g, 5, none⟩ (.int .i64 x.under)).setCell ⟨g, 6, none⟩ (.int .i64 x.cur)).setCell ⟨g, 7, none⟩ (.int .i64 x.qty)).setCell ⟨g, 8, none⟩ (.int .i64 x.price)).setCell ⟨g, 9, none⟩ (.int .i64 x.amount)).setCell ⟨g, 10, none⟩ (.bool x.call)).setCell ⟨g, 11, none⟩ (.string ⟨x.name.toArray⟩)) v g2 a7 ts := ((((((((((((h.set h1 h2 h7 0 _).set h1 h2 h7 1 _).set h1 h2 h7 2 _).set h1 h2 h7 3 _).set h1 h2 h7 4 _).set h1 h2 h7 5 _).set h1 h2 h7 6 _).set h1 h2 h7 7 _).set h1 h2 h7 8 _).set h1 h2 h7 9 _).set h1 h2 h7 10 _).set h1 h2 h7 11 _)
def LoopO (w : World) (v : Ev) (g2 g3 : Nat) (a7 : Option Addr) (ts : List Int) (c : Ev) (i : Value) (wr : World) : Prop :=
  ∃ (k : Nat) (o : Ev), k ≤ ts.length ∧ i = .int .i64 k ∧ HoldO w wr v g2 a7 ts ∧ Box wr g3 23 (Ev.cells o) ∧ Hid ((ts.drop k).foldl (addOwn v) o = c)
theorem own_step {v o c : Ev} {ts : List Int} {k : Nat} (hk : k < ts.length) (h : (ts.drop k).foldl (addOwn v) o = c) : (ts.drop (k + 1)).foldl (addOwn v) (addOwn v o ts[k]) = c := by
  rw [List.drop_eq_getElem_cons hk, List.foldl_cons] at h
  exact h
theorem addOwn_name {v o : Ev} : addOwn v o 107 = { o with name := v.name } := by unfold addOwn; rw [if_pos rfl]
theorem addOwn_call {v o : Ev} : addOwn v o 201 = { o with call := v.call } := by unfold addOwn; rw [if_neg (by decide), if_pos rfl]
theorem addOwn_num {v o : Ev} {t : Int} (h1 : t ≠ 107) (h2 : t ≠ 201) : addOwn v o t = setN o t (num v t) := by unfold addOwn; rw [if_neg h1, if_neg h2]
set_option maxHeartbeats 4000000 in
set_option maxRecDepth 20000 in
theorem own_calls (v : Ev) (w : World) : Calls Tryz.prog 9 #[.agg (Ev.cells v)] w fun e w' => e = .returned (.agg (Ev.cells (ownF v))) ∧ Below w.heap.size w w' := by
  have X0 := ((Box.new w 23 (Ev.cells v)).alloc (.cells #[.int .i64 0, .int .i64 0, .int .i64 0, .int .i64 0, .int .i64 0, .int .i64 0, .int .i64 0, .int .i64 0, .int .i64 0, .int .i64 0, .bool false, .string ⟨#[]⟩] 23)).alloc (.cells (#[.int .i64 v.kind, .int .i64 0, .int .i64 0, .int .i64 0, .int .i64 0, .int .i64 0, .int .i64 0, .int .i64 0, .int .i64 0, .int .i64 0, .bool false, .string ⟨#[]⟩]) 23)
  have Y0 := (Box.new (w.alloc (.cells (Ev.cells v) 23)) 23 #[.int .i64 0, .int .i64 0, .int .i64 0, .int .i64 0, .int .i64 0, .int .i64 0, .int .i64 0, .int .i64 0, .int .i64 0, .int .i64 0, .bool false, .string ⟨#[]⟩]).alloc (.cells (#[.int .i64 v.kind, .int .i64 0, .int .i64 0, .int .i64 0, .int .i64 0, .int .i64 0, .int .i64 0, .int .i64 0, .int .i64 0, .int .i64 0, .bool false, .string ⟨#[]⟩]) 23)
  have Z0 := Box.new ((w.alloc (.cells (Ev.cells v) 23)).alloc (.cells #[.int .i64 0, .int .i64 0, .int .i64 0, .int .i64 0, .int .i64 0, .int .i64 0, .int .i64 0, .int .i64 0, .int .i64 0, .int .i64 0, .bool false, .string ⟨#[]⟩] 23)) 23 (#[.int .i64 v.kind, .int .i64 0, .int .i64 0, .int .i64 0, .int .i64 0, .int .i64 0, .int .i64 0, .int .i64 0, .int .i64 0, .int .i64 0, .bool false, .string ⟨#[]⟩])
  have B0 := (((Below.refl w.heap.size w).alloc (Nat.le_refl _) (.cells (Ev.cells v) 23)).alloc (by simp) (.cells #[.int .i64 0, .int .i64 0, .int .i64 0, .int .i64 0, .int .i64 0, .int .i64 0, .int .i64 0, .int .i64 0, .int .i64 0, .int .i64 0, .bool false, .string ⟨#[]⟩] 23)).alloc (by simp; omega) (.cells (#[.int .i64 v.kind, .int .i64 0, .int .i64 0, .int .i64 0, .int .i64 0, .int .i64 0, .int .i64 0, .int .i64 0, .int .i64 0, .int .i64 0, .bool false, .string ⟨#[]⟩]) 23)
  have hs1 : (w.alloc (.cells (Ev.cells v) 23)).heap.size = w.heap.size + 1 := by simp
  have hs2 : ((w.alloc (.cells (Ev.cells v) 23)).alloc (.cells #[.int .i64 0, .int .i64 0, .int .i64 0, .int .i64 0, .int .i64 0, .int .i64 0, .int .i64 0, .int .i64 0, .int .i64 0, .int .i64 0, .bool false, .string ⟨#[]⟩] 23)).heap.size = w.heap.size + 1 + 1 := by simp
  rw [hs1] at Y0
  rw [hs2] at Z0
  go_enter Tryz.func9, Tryz.ntmps9
  have k0 : ((w.alloc (.cells (Ev.cells v) 23)).alloc (.cells #[.int .i64 0, .int .i64 0, .int .i64 0, .int .i64 0, .int .i64 0, .int .i64 0, .int .i64 0, .int .i64 0, .int .i64 0, .int .i64 0, .bool false, .string ⟨#[]⟩] 23)).cell? ⟨w.heap.size, 0, none⟩ = some (.int .i64 v.kind) := ((Box.new w 23 (Ev.cells v)).alloc (.cells #[.int .i64 0, .int .i64 0, .int .i64 0, .int .i64 0, .int .i64 0, .int .i64 0, .int .i64 0, .int .i64 0, .int .i64 0, .int .i64 0, .bool false, .string ⟨#[]⟩] 23)).cell 0
  go_upto_region 2 with fail
  generalize ((w.alloc (.cells (Ev.cells v) 23)).alloc (.cells #[.int .i64 0, .int .i64 0, .int .i64 0, .int .i64 0, .int .i64 0, .int .i64 0, .int .i64 0, .int .i64 0, .int .i64 0, .int .i64 0, .bool false, .string ⟨#[]⟩] 23)).alloc (.cells (#[.int .i64 v.kind, .int .i64 0, .int .i64 0, .int .i64 0, .int .i64 0, .int .i64 0, .int .i64 0, .int .i64 0, .int .i64 0, .int .i64 0, .bool false, .string ⟨#[]⟩]) 23) = w1 at *
  have Y1 : Box w1 (w.heap.size + 1) 23 (Ev.cells Ev.zero) := Y0
  have Z1 : Box w1 (w.heap.size + 1 + 1) 23 (Ev.cells (Ev.ofKind v.kind)) := Z0
  clear Y0 Z0 k0
  have k1 : w1.cell? ⟨w.heap.size, 0, none⟩ = some (.int .i64 v.kind) := X0.cell 0
  have HTg := Lib.hid (fun W => rtags_calls v.kind W)
  have hTr := Lib.hid (fun t h => @tag_range v.kind t h)
  have hOwn := Lib.hid (show (tagsF v.kind).foldl (addOwn v) (Ev.ofKind v.kind) = ownF v from rfl)
  have hl6 := tagsF_len v.kind
  generalize tagsF v.kind = ts at *
  go_wp2_with (go_at_call 22; refine (HTg.out _).mono ?_; rintro e w7 ⟨a7, c7, rfl, at7, fr7, b7⟩)
  have H7 : HoldO w w7 v (w.heap.size + 1) a7 ts := ⟨X0.keep b7, Y1.keep b7, at7, B0.trans (b7.mono B0.size)⟩
  have Z7 := Z1.keep b7
  have hz1 := Z1.lt
  have h7 : ∀ b off s, a7 = some ⟨b, off, s⟩ → b ≠ w.heap.size + 1 + 1 := fun b off s e => by have := fr7 b off s e; omega
  have HN7 := Lib.hid h7
  clear X0 Y1 Z1 B0 k1 at7 fr7 b7 h7 hz1 HTg hs1 hs2
  go_loopw [13] (LoopO w v (w.heap.size + 1) (w.heap.size + 1 + 1) a7 ts (ownF v)) (fun i _ => ts.length - (intOf i).toNat)
  case atStart => exact ⟨0, _, Nat.zero_le _, rfl, H7, Z7, hOwn.out⟩
  case round =>
    clear H7 Z7 hOwn
    obtain ⟨k, o, hk, rfl, H, Z, HG⟩ := hrel
    by_cases hlt : k < ts.length
    · obtain ⟨b2, off2, rfl, hcell⟩ := H.at_ k _ (i64s_get ts k hlt)
      have hT := hTr.out _ (List.getElem_mem hlt)
      have hS := Lib.hid (own_step hlt HG.out)
      clear HG
      generalize htt : ts[k] = t at *
      clear htt
      have hzw := H.low.size
      rcases hT with rfl | rfl | hnum
      · rw [addOwn_name] at hS
        have c0 : wr.cell? ⟨w.heap.size, 11, none⟩ = some (.string ⟨v.name.toArray⟩) := H.bv.cell 11
        have d0 : wr.cell? ⟨w.heap.size + 1 + 1, 11, none⟩ = some (.string ⟨o.name.toArray⟩) := Z.cell 11
        have d1 := Z.frozen 11
        go_wp2_with fail
        go_roundw
        case rel => exact ⟨k + 1, _, by omega, by go_num, H.set (by omega) (by omega) HN7.out 11 _, by rw [← name_cells]; exact Box.set Z 11 _, hS.out⟩
        case measure => simp [intOf]; omega
      · rw [addOwn_call] at hS
        have c0 : wr.cell? ⟨w.heap.size, 10, none⟩ = some (.bool v.call) := H.bv.cell 10
        have d0 : wr.cell? ⟨w.heap.size + 1 + 1, 10, none⟩ = some (.bool o.call) := Z.cell 10
        have d1 := Z.frozen 10
        go_wp2_with fail
        go_roundw
        case rel => exact ⟨k + 1, _, by omega, by go_num, H.set (by omega) (by omega) HN7.out 10 _, by rw [← call_cells]; exact Box.set Z 10 _, hS.out⟩
        case measure => simp [intOf]; omega
      · have t1 : (t == 107) = false := by simp; omega
        have t2 : (t == 201) = false := by simp; omega
        rw [addOwn_num (by omega) (by omega)] at hS
        have hN := Lib.hid (fun W => number_calls v t W)
        obtain ⟨x, hx⟩ : ∃ x, x = setN o t (num v t) := ⟨_, rfl⟩
        rw [← hx] at hS
        have hW : ∀ W, Calls Tryz.prog 23 #[.agg (Ev.cells o), .int .i64 t, .int .i64 (num v t)] W fun e w' => e = .returned (.agg #[.int .i64 x.kind, .int .i64 x.acct, .int .i64 x.id, .int .i64 x.new, .int .i64 x.instr, .int .i64 x.under, .int .i64 x.cur, .int .i64 x.qty, .int .i64 x.price, .int .i64 x.amount, .bool x.call, .string ⟨x.name.toArray⟩]) ∧ Below W.heap.size W w' := fun W => by
          have := with_calls o t (num v t) W hnum
          rw [← hx] at this
          exact this
        have hW := Lib.hid hW
        generalize num v t = nt at *
        clear hx hnum
        go_upto_region 9 with fail
        obtain ⟨e0, e1, e2, e3, e4, e5, e6, e7, e8, e9, e10, e11⟩ := H.bv.cells12
        obtain ⟨p0, p1, p2, p3, p4, p5, p6, p7, p8, p9, p10, p11⟩ := Z.cells12
        go_region_with (first
          | (go_at_call 24; refine (hN.out _).mono ?_; rintro e w5 ⟨rfl, b5⟩; have H5 : HoldO w w5 v (w.heap.size + 1) (some ⟨b2, off2, none⟩) ts := (by first | exact H.keep b5 | exact H.drew.keep b5 | exact (H.drewN _).keep b5); have X5 : Box w5 (w.heap.size + 1 + 1) 23 (Ev.cells o) := (by first | exact Z.keep b5 | exact box_first Z b5 | exact Box.keep (w := wr.drew) Z b5); obtain ⟨y0, y1, y2, y3, y4, y5, y6, y7, y8, y9, y10, y11⟩ := X5.cells12)
          | (go_at_call 23; refine (hW.out _).mono ?_; rintro e w6 ⟨rfl, b6⟩; have H6 : HoldO w w6 v (w.heap.size + 1) (some ⟨b2, off2, none⟩) ts := (by first | exact H5.keep b6 | exact H5.drew.keep b6 | exact (H5.drewN _).keep b6); have X6 : Box w6 (w.heap.size + 1 + 1) 23 (Ev.cells o) := (by first | exact X5.keep b6 | exact box_first X5 b6 | exact Box.keep (w := w5.drew) X5 b6); obtain ⟨x0, x1, x2, x3, x4, x5, x6, x7, x8, x9, x10, x11⟩ := X6.cells12; have z0 := X6.frozen 0; have z1 := X6.frozen 1; have z2 := X6.frozen 2; have z3 := X6.frozen 3; have z4 := X6.frozen 4; have z5 := X6.frozen 5; have z6 := X6.frozen 6; have z7 := X6.frozen 7; have z8 := X6.frozen 8; have z9 := X6.frozen 9; have z10 := X6.frozen 10; have z11 := X6.frozen 11))
        all_goals
          go_wp2_with fail
          go_roundw
          case rel => exact ⟨k + 1, x, by omega, by go_num, H6.set12 (by omega) (by omega) HN7.out x, box_set12 X6 x, hS.out⟩
          case measure => simp [intOf]; omega
    · have hkk : k = ts.length := by omega
      subst hkk
      have hE := HG.out
      rw [List.drop_length] at hE
      have HE := Lib.hid (show o = ownF v from hE)
      clear hE HG
      go_wp2_with (first | ((with_reducible refine wpList_load_box rfl 23 (.tmp 3) rfl Z Tryz.underlying23 ?_ ?_ ?_ ?_); (· rfl); (· exact size12 _); (· rfl)) | ((with_reducible refine wpList_store_box rfl 23 (.tmp 2) (.tmp 34) rfl (Ev.cells o) H.br ?_ ?_ ?_ ?_ ?_ ?_); (· exact size12 _); (· rfl); (· exact ev_one _); (· rfl); (· rfl); skip))
      exact bodyPost_ret (results_cell1 (by rfl) _ _ (Box.row H.br (Ev.cells o)) Tryz.underlying23 rfl (size12 _) rfl) rfl ⟨by rw [HE.out], below_setRow H.low (by omega) _⟩
end Go.Proofs.YtbpndiegbfpigaaGreatDoor.PortW
