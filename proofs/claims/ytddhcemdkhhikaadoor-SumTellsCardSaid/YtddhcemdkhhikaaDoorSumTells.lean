/- SumTells: the walk, and the step from the law's arguments to it. -/
import Derived.Test.YtddhcemdkhhikaaDoorSumWalks
import Derived.Test.YtddhcemdkhhikaaDoorSumTellsMath
namespace Go.Proofs.YtddhcemdkhhikaaDoor.sumTells
open Go.ChangeShapes Go.WideShapes Go.ChangeAt Go.RowKit Go.Proofs.YtddhcemdkhhikaaDoor.Bas Go.Proofs.YtddhcemdkhhikaaDoor.SumM Go.Proofs.YtddhcemdkhhikaaDoor.SumW

theorem elem8 : Elem Tryd.prog 22 5 (.int .u8 0) 1 1 := ⟨Tryd.underlying22, by kernel_rfl, rfl, by decide⟩

/-- the masks, one by one -/
theorem mask_at (m0 m1 m2 m3 : UInt8) (k : Nat) (hk : k < 4) (w : World) :
    (Instr.index 28 (.agg #[.int .u8 m0.toNat, .int .u8 m1.toNat, .int .u8 m2.toNat, .int .u8 m3.toNat]) (.int .i64 k)).run Tryd.prog w = .ok (.int .u8 (([m0, m1, m2, m3].getD k 0).toNat)) w := by
  match k, hk with
  | 0, _ => rfl
  | 1, _ => rfl
  | 2, _ => rfl
  | 3, _ => rfl

/-- what the loop keeps: the row, the count -/
def Kept (B : Nat) (at_ : Int) (ms l : List UInt8) (k : Nat) (n : Nat) (v : Value) (w : World) : Prop :=
  n = (tur at_ ms l k).2 ∧ w.ownsRow B 5 1 v l.length (u8s (tur at_ ms l k).1)

theorem Kept.skip {B : Nat} {at_ : Int} {ms l : List UInt8} {k n : Nat} {v : Value} {w : World} (h : Kept B at_ ms l k n v w) (hc : ¬ (0 ≤ at_ ∧ at_ < (l.length : Int) - k)) : Kept B at_ ms l (k + 1) n v w := by
  unfold Kept at *
  rw [tur, if_neg hc]
  exact h

theorem Kept.turn {B : Nat} {p : Nat} {ms l : List UInt8} {k n : Nat} {g cap : Nat} {w : World} (h : Kept B (p : Int) ms l k n (.slice (some ⟨g, 0, none⟩) l.length cap) w) (hc : p + k < l.length) (x m : UInt8)
    (hx : x = (tur (p : Int) ms l k).1.getD (p + k) 0) (hm : m = ms.getD k 0) :
    Kept B (p : Int) ms l (k + 1) (n + if m = 0 then 0 else 1) (.slice (some ⟨g, 0, none⟩) l.length cap) (w.setCell ⟨g, p + k, none⟩ (.int .u8 (x ^^^ m).toNat)) := by
  unfold Kept at *
  rw [show tur (p : Int) ms l (k + 1) = ((tur (p : Int) ms l k).1.set (p + k) (x ^^^ m), (tur (p : Int) ms l k).2 + if m = 0 then 0 else 1) by
    rw [tur, if_pos (by omega), hx, hm]; simp]
  refine ⟨by rw [h.1], ?_⟩
  have := (h.2.stored (p + k) (.int .u8 (x ^^^ m).toNat)).1
  simpa [u8s, List.map_set] using this

set_option maxHeartbeats 1000000 in
theorem walk (a : Option Addr) (cap : Nat) (l : List UInt8) (at_ : Int) (m0 m1 m2 m3 : UInt8) (w : World) (hbig : l.length ≤ 140737488351232) (hwf : -9223372036854775808 ≤ at_ ∧ at_ ≤ 9223372036854775807) (hc : At w a (u8s l)) (ht : Tab w) :
    Calls Tryd.prog 4 #[.slice a l.length cap, .int .i64 at_, .agg #[.int .u8 m0.toNat, .int .u8 m1.toNat, .int .u8 m2.toNat, .int .u8 m3.toNat]] w fun e w' => e = .returned (.bool true) ∧ Below w.heap.size w w' := by
  have HT := Lib.hid ht
  clear ht
  go_enter Tryd.func4, Tryd.ntmps4
  go_wp2_with fail
  have hB0 : Below w.heap.size w (w.alloc (.cells #[.int .u8 m0.toNat, .int .u8 m1.toNat, .int .u8 m2.toNat, .int .u8 m3.toNat] 28)) := (Below.refl _ _).alloc (Nat.le_refl _) _
  have hat0 := at_alloc w #[.int .u8 m0.toNat, .int .u8 m1.toNat, .int .u8 m2.toNat, .int .u8 m3.toNat] 28 (0, 0)
  refine (wakes_calls _ (HT.out.keep hB0)).mono ?_
  rintro e w1 ⟨rfl, hb⟩
  have hB1 : Below w.heap.size w w1 := hB0.trans (hb.mono (by simp))
  have hat1 := hat0.keep hb
  have hsz1 : w.heap.size < w1.heap.size := by have := hb.size; simp at this; omega
  have hc1 := hc.keep hB1
  have HT1 := Lib.hid (HT.out.keep hB1)
  have cellm : ∀ j (u : Value), [Value.int .u8 m0.toNat, .int .u8 m1.toNat, .int .u8 m2.toNat, .int .u8 m3.toNat][j]? = some u → w1.cell? ⟨w.heap.size, j, none⟩ = some u := by
    intro j u hj
    obtain ⟨b, off, h, hcell⟩ := hat1 j u hj
    cases h
    simpa using hcell
  clear hat1 hat0 hb hB0
  go_wp2_with (at_builtin; refine wpList_append_at _ rfl (.tmp 13) (.tmp 14) elem8 rfl (w.heap.size + 1) (.slice (some ⟨w1.heap.size, 0, none⟩) 0 0) 0 [] rfl (World.ownsRow_made _ _ _ (by omega) (by unfold maxLen; omega) rfl) a l.length cap (u8s l) rfl (by rw [u8s_len]; omega) (hc1.keep ((Below.refl _ _).alloc (Nat.le_refl _) _)) (one_u8 l) (by unfold maxLen; omega) (by omega) (by simp; omega) ?_; intro v1 w2 hown2 hbel2 _ _; have hbel := ((Below.refl (w.heap.size + 1) w1).alloc (by omega) _).trans hbel2; have hm0 := (hbel.cell (p := ⟨w.heap.size, 0, none⟩) (by simp)).trans (cellm 0 _ rfl); have hm1 := (hbel.cell (p := ⟨w.heap.size, 1, none⟩) (by simp)).trans (cellm 1 _ rfl); have hm2 := (hbel.cell (p := ⟨w.heap.size, 2, none⟩) (by simp)).trans (cellm 2 _ rfl); have hm3 := (hbel.cell (p := ⟨w.heap.size, 3, none⟩) (by simp)).trans (cellm 3 _ rfl))
  have hB2 : Below w.heap.size w w2 := hB1.trans (hbel.mono (by omega))
  have hsz2 : w.heap.size < w2.heap.size := by have := hbel.size; omega
  simp only [Nat.zero_add, List.nil_append] at hown2
  clear hbel hbel2 hm0 hm1 hm2 hm3 cellm hc1 HT1
  obtain ⟨a2, cp2, rfl, _, _, _, _, _⟩ := at_of_owns hown2
  go_loopw [8, 17] (fun n i wr => ∃ k c : Nat, k ≤ 4 ∧ i = .int .i64 k ∧ n = .int .i64 c ∧ c ≤ k ∧ Kept (w.heap.size + 1) at_ [m0, m1, m2, m3] l k c (.slice a2 l.length cp2) wr ∧ Below w.heap.size w wr) (fun _ i _ => 4 - (intOf i).toNat)
  case atStart => exact ⟨0, 0, by omega, rfl, rfl, by omega, ⟨rfl, hown2⟩, hB2⟩
  case round =>
    clear hB1 hsz1 hown2 hB2 hsz2
    obtain ⟨k, c, hk, rfl, rfl, hck, hkept, hbr⟩ := hrel
    by_cases hk4 : k < 4
    · have hidx := mask_at m0 m1 m2 m3 k hk4
      generalize hm : [m0, m1, m2, m3].getD k 0 = m at hidx
      have Hm := Lib.hid hm
      clear hm
      have hml : m.toNat < 256 := m.toNat_lt
      by_cases hin : 0 ≤ at_ ∧ at_ < (l.length : Int) - k
      · obtain ⟨p, rfl⟩ := Int.eq_ofNat_of_zero_le hin.1
        have hpk : p + k < l.length := by omega
        obtain ⟨g, cp, hv, hgb, hgs⟩ := hkept.2.form (by omega)
        cases hv
        have hlen := tur_len (p : Int) [m0, m1, m2, m3] l k
        have hcell := hkept.2.cellAt (p + k) (by omega)
        rw [u8s_getD _ _ (by omega)] at hcell
        have hfr := hkept.2.frozenAt (p + k)
        clear hlen
        generalize hx : (tur (p : Int) [m0, m1, m2, m3] l k).1.getD (p + k) 0 = x at hcell
        have hxl : x.toNat < 256 := x.toNat_lt
        have e1 : bits .xor .u8 (x.toNat : Int) (m.toNat : Int) = ((x ^^^ m).toNat : Int) := by rw [u8_xor_nat _ _ hxl hml, UInt8.toNat_xor]
        have hxm : (x ^^^ m).toNat < 256 := (x ^^^ m).toNat_lt
        have hstep := hkept.turn hpk x m hx.symm Hm.out.symm
        have hbs := hbr.setCell (p := ⟨g, p + k, none⟩) (by show w.heap.size ≤ g; omega) (.int .u8 ((x ^^^ m).toNat : Int))
        clear hkept hx
        by_cases hmz : m = 0
        · rw [if_pos hmz] at hstep
          have HS := Lib.hid hstep
          have hne : ((m.toNat : Int) != 0) = false := by rw [hmz]; rfl
          clear hstep hmz
          go_wp2
          go_roundw
          case rel => exact ⟨k + 1, c, by omega, by go_num, rfl, by omega, HS.out, hbs⟩
          case measure => simp [intOf]; omega
        · rw [if_neg hmz] at hstep
          have HS := Lib.hid hstep
          have hne : ((m.toNat : Int) != 0) = true := by
            rw [bne_iff_ne]
            intro h
            exact hmz ((toNat_eq_zero m).1 (by omega))
          clear hstep hmz
          go_wp2
          go_roundw
          case rel => exact ⟨k + 1, c + 1, by omega, by go_num, by go_num, by omega, HS.out, hbs⟩
          case measure => simp [intOf]; omega
      · have HS := Lib.hid (hkept.skip hin)
        clear hkept
        by_cases h0 : 0 ≤ at_
        · have h1 : ¬ at_ < (l.length : Int) - k := fun h => hin ⟨h0, h⟩
          clear hin
          go_wp2
          go_roundw
          case rel => exact ⟨k + 1, c, by omega, by go_num, rfl, by omega, HS.out, hbr⟩
          case measure => simp [intOf]; omega
        · clear hin
          go_wp2
          go_roundw
          case rel => exact ⟨k + 1, c, by omega, by go_num, rfl, by omega, HS.out, hbr⟩
          case measure => simp [intOf]; omega
    · have : k = 4 := by omega
      subst this
      obtain ⟨a3, cp3, hv, _, _, hat2, _, _⟩ := at_of_owns hkept.2
      cases hv
      have hcr := hc.keep hbr
      have HTr := Lib.hid (HT.out.keep hbr)
      have hlen := tur_len at_ [m0, m1, m2, m3] l 4
      have hcrc : crcN (nats l) = crcN (nats (tur at_ [m0, m1, m2, m3] l 4).1) ↔ (tur at_ [m0, m1, m2, m3] l 4).2 = 0 := tells_crc at_ [m0, m1, m2, m3] l rfl
      have hsm : (tur at_ [m0, m1, m2, m3] l 4).2 = 1 → smallN (nats l) ≠ smallN (nats (tur at_ [m0, m1, m2, m3] l 4).1) := tells_small at_ [m0, m1, m2, m3] l
      rw [← hkept.1] at hcrc hsm
      clear hkept HT hc
      generalize (tur at_ [m0, m1, m2, m3] l 4).1 = L at hat2 hlen hcrc hsm
      have HL := Lib.hid hlen
      clear hlen
      have k1 := fun W => crc_calls a cap l W (by omega)
      have k2 := fun (W : World) (h : At W a2 (u8s L)) (ht : Tab W) => crc_calls a2 cp2 L W (by have := HL.out; omega) h ht
      have k3 := fun W => small_calls a cap l W (by omega)
      have k4 := fun (W : World) (h : At W a2 (u8s L)) => small_calls a2 cp2 L W (by have := HL.out; omega) h
      have hL := HL.out
      rw [hL] at k2 k4
      clear hL
      generalize crcN (nats l) = x1 at k1 hcrc
      generalize crcN (nats L) = x2 at k2 hcrc
      generalize smallN (nats l) = y1 at k3 hsm
      generalize smallN (nats L) = y2 at k4 hsm
      have K1 := Lib.hid k1
      have K2 := Lib.hid k2
      have K3 := Lib.hid k3
      have K4 := Lib.hid k4
      clear k1 k2 k3 k4
      by_cases h0 : c = 0
      · have h1 : ((x1 : Int) != (x2 : Int)) = false := by have := hcrc.2 h0; simp [this]
        subst h0
        clear hcrc hsm
        go_wp2_with fail
        refine (K1.out _ hcr HTr.out).mono ?_
        rintro e w' ⟨rfl, rfl⟩
        go_wp2_with fail
        refine (K2.out _ hat2 HTr.out).mono ?_
        rintro e w' ⟨rfl, rfl⟩
        go_wp2_with fail
        go_ret
        exact ⟨rfl, hbr⟩
      · have h1 : ((x1 : Int) != (x2 : Int)) = true := by
          rw [bne_iff_ne]
          intro h
          exact h0 (hcrc.1 (by omega))
        have h2 : 0 < c := by omega
        have h2' : decide (0 < (c : Int)) = true := by simp; omega
        by_cases h3 : c = 1
        · have h4 : ((y1 : Int) != (y2 : Int)) = true := by
            rw [bne_iff_ne]
            intro h
            exact hsm h3 (by omega)
          subst h3
          clear hcrc hsm h0
          go_wp2_with fail
          refine (K1.out _ hcr HTr.out).mono ?_
          rintro e w' ⟨rfl, rfl⟩
          go_wp2_with fail
          refine (K2.out _ hat2 HTr.out).mono ?_
          rintro e w' ⟨rfl, rfl⟩
          go_wp2_with fail
          refine (K3.out _ hcr).mono ?_
          rintro e w' ⟨rfl, rfl⟩
          go_wp2_with fail
          refine (K4.out _ hat2).mono ?_
          rintro e w' ⟨rfl, rfl⟩
          go_wp2_with fail
          go_ret
          exact ⟨rfl, hbr⟩
        · have h5 : ((c : Int) != 1) = true := by rw [bne_iff_ne]; omega
          clear hcrc hsm h0 h3
          go_wp2_with fail
          refine (K1.out _ hcr HTr.out).mono ?_
          rintro e w' ⟨rfl, rfl⟩
          go_wp2_with fail
          refine (K2.out _ hat2 HTr.out).mono ?_
          rintro e w' ⟨rfl, rfl⟩
          go_wp2_with fail
          go_ret
          exact ⟨rfl, hbr⟩

theorem opened (H : Type) (enc : TypeId × Value → H) (W : World) (base : Nat) (args : Array Value) (ds : List (DataW H)) (p : List MemPlace)
    (hval : ∀ (j : Nat) t v, Tryd.f4.params[j]? = some t → args[j]? = some v → Value.okWide Tryd.prog W .any base t v)
    (hA : DataW.TrodAll enc Tryd.prog W 0 (fun _ => true) true Tryd.f4.params.toList args.toList ds p)
    (hr : ∀ x ∈ DataW.weightsEach Tryd.prog Tryd.f4.params.toList ds, x ≤ reachBytes)
    (hL : laidMetH Tryd.prog Rows.sumTellsRow.laid W) :
    Calls Tryd.prog 4 args W fun e W' => e = .returned (.bool true) ∧ Below W.heap.size W W' := by
  rw [Tryd.params4] at hA hval hr
  obtain ⟨v0, vs0, d0, ds0, p0, q0, hargs, rfl, rfl, h0, r0⟩ := trodAll_cons hA
  obtain ⟨v1, vs1, d1, ds1, p1, q1, rfl, rfl, rfl, h1, r1⟩ := trodAll_cons r0
  obtain ⟨v2, vs2, d2, ds2, p2, q2, rfl, rfl, rfl, h2, r2⟩ := trodAll_cons r1
  obtain ⟨rfl, rfl, rfl⟩ := trodAll_nil r2
  obtain rfl : args = #[v0, v1, v2] := by cases args; simp_all
  obtain ⟨a, l, cap, rfl, hat, hl, hm, hd⟩ := open_u8 Tryd.underlying22 Tryd.underlying5 cells8 (hval 0 22 v0 rfl rfl) h0
  obtain ⟨at_, rfl, rfl, rfl, wa⟩ := open_int Tryd.underlying3 (hval 1 3 v1 rfl rfl) h1
  obtain ⟨zs, rfl, hz, hw⟩ := open_arr_int Tryd.underlying28 Tryd.underlying5 cells8 (by kernel_rfl) (hval 2 28 v2 rfl rfl) h2
  have hreach := reach_slice (n := l.length) (cap := cap) Tryd.underlying22 hd (fun x hx => hr x (by simp [DataW.weightsEach, hx]))
  rw [bytes8] at hreach
  obtain ⟨ms, hms, e⟩ := u8_of_wf zs hw
  rw [e]
  have hml : ms.length = 4 := by omega
  have hwa : -9223372036854775808 ≤ at_ ∧ at_ ≤ 9223372036854775807 := by simpa [Lit.wf, IntKind.min, IntKind.max, IntKind.signed, IntKind.bits] using wa
  match ms, hml with
  | [m0, m1, m2, m3], _ => exact walk a cap l at_ m0 m1 m2 m3 W (by omega) hwa hat (tab_of_laid hL)
end Go.Proofs.YtddhcemdkhhikaaDoor.sumTells
