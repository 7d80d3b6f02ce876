/- SumTurns: the walk, and the step from the law's arguments to it. -/
import Derived.Test.YtddhcemdkhhikaaDoorSumWalks
import Derived.Test.YtddhcemdkhhikaaDoorBulk
namespace Go.Proofs.YtddhcemdkhhikaaDoor.sumTurns
open Go.ChangeShapes Go.WideShapes Go.ChangeAt Go.RowKit Go.Proofs.YtddhcemdkhhikaaDoor.Bas Go.Proofs.YtddhcemdkhhikaaDoor.SumM Go.Proofs.YtddhcemdkhhikaaDoor.SumW

theorem elem8 : Elem Tryd.prog 22 5 (.int .u8 0) 1 1 := ⟨Tryd.underlying22, by kernel_rfl, rfl, by decide⟩

/-- how far the turning about has come -/
def bk (l : List UInt8) (k : Nat) : List UInt8 := List.replicate (l.length - k) 0 ++ (l.take k).reverse
theorem bk_len (l : List UInt8) (k : Nat) (h : k ≤ l.length) : (bk l k).length = l.length := by simp [bk]; omega
theorem bk_step (l : List UInt8) (k : Nat) (h : k < l.length) : (bk l k).set (l.length - 1 - k) l[k] = bk l (k + 1) := by
  unfold bk
  obtain ⟨m, hm⟩ : ∃ m, l.length - k = m + 1 := ⟨l.length - k - 1, by omega⟩
  rw [List.take_succ_eq_append_getElem h, List.reverse_append, hm, show l.length - (k + 1) = m by omega, show l.length - 1 - k = m by omega, List.replicate_succ']
  rw [List.append_assoc, List.set_append_right _ _ (by simp)]
  simp
theorem bk_end (l : List UInt8) : bk l l.length = l.reverse := by simp [bk]
theorem small_perm (l m : List UInt8) : smallN (nats (l ++ m)) = smallN (nats (m ++ l)) := by
  rw [smallN_sum, smallN_sum]
  simp [nats, Nat.add_comm]
theorem small_rev (l : List UInt8) : smallN (nats l) = smallN (nats l.reverse) := by
  rw [smallN_sum, smallN_sum]
  simp [nats, List.sum_reverse]
theorem small_add (l m : List UInt8) : smallN (nats (l ++ m)) = (smallN (nats l) + smallN (nats m)) % 256 := by
  rw [smallN_sum, smallN_sum, smallN_sum]
  simp [nats]

set_option maxHeartbeats 1000000 in
theorem walk (a b : Option Addr) (ca cb : Nat) (l m : List UInt8) (w : World) (hbig : l.length + m.length ≤ 1048576) (ha : At w a (u8s l)) (hb : At w b (u8s m)) (ht : Tab w) :
    Calls Tryd.prog 5 #[.slice a l.length ca, .slice b m.length cb] w fun e w' => e = .returned (.bool true) ∧ Below w.heap.size w w' := by
  have HT := Lib.hid ht
  clear ht
  go_enter Tryd.func5, Tryd.ntmps5
  go_wp2_with fail
  refine (wakes_calls _ HT.out).mono ?_
  rintro e w1 ⟨rfl, hB1⟩
  have ha1 := ha.keep hB1
  have hb1 := hb.keep hB1
  have z1 := hB1.size
  go_wp2_with (first
    | (at_builtin; refine wpList_append_at _ rfl (.tmp 11) (.tmp 12) elem8 rfl w1.heap.size (.slice (some ⟨w1.heap.size, 0, none⟩) 0 0) 0 [] rfl (owns_empty w1 _ _ _ (Nat.le_refl _)) a l.length ca (u8s l) rfl (by rw [u8s_len]; omega) (ha1.keep ((Below.refl _ _).alloc (Nat.le_refl _) _)) (one_u8 l) (by unfold maxLen; omega) (by omega) (by simp) ?_; intro v2 w2 own2 bel2 _ _; have hB2 := ((Below.refl w1.heap.size w1).alloc (Nat.le_refl _) _).trans bel2; have hb2 := hb1.keep hB2; have z2 := hB2.size; simp only [Nat.zero_add, List.nil_append] at own2)
    | (at_builtin; refine wpList_append_at _ rfl (.tmp 13) (.tmp 14) elem8 rfl w1.heap.size v2 l.length (u8s l) rfl own2 b m.length cb (u8s m) rfl (by rw [u8s_len]; omega) hb2 (one_u8 m) (by unfold maxLen; omega) (by omega) z2 ?_; intro v3 w3 own3 bel3 _ _; have hB3 := hB2.trans bel3; have ha3 := ha1.keep hB3; have hb3 := hb1.keep hB3; have z3 := hB3.size; clear own2 bel2 bel3 hB2 hb2 z2)
    | (at_builtin; refine wpList_append_at _ rfl (.tmp 16) (.tmp 17) elem8 rfl w3.heap.size (.slice (some ⟨w3.heap.size, 0, none⟩) 0 0) 0 [] rfl (owns_empty w3 _ _ _ (Nat.le_refl _)) b m.length cb (u8s m) rfl (by rw [u8s_len]; omega) (hb3.keep ((Below.refl _ _).alloc (Nat.le_refl _) _)) (one_u8 m) (by unfold maxLen; omega) (by omega) (by simp) ?_; intro v4 w4 own4 bel4 _ _; have hB4 := ((Below.refl w3.heap.size w3).alloc (Nat.le_refl _) _).trans bel4; have ha4 := ha3.keep hB4; have z4 := hB4.size; simp only [Nat.zero_add, List.nil_append] at own4)
    | (at_builtin; refine wpList_append_at _ rfl (.tmp 18) (.tmp 19) elem8 rfl w3.heap.size v4 m.length (u8s m) rfl own4 a l.length ca (u8s l) rfl (by rw [u8s_len]; omega) ha4 (one_u8 l) (by unfold maxLen; omega) (by omega) z4 ?_; intro v5 w5 own5 bel5 _ _; have hB5 := hB4.trans bel5; have own35 := owns_below own3 hB5; have z5 := hB5.size; clear own3 own4 bel4 bel5 hB4 ha4 z4; obtain ⟨L, hL⟩ : ∃ L, L = l ++ m := ⟨_, rfl⟩; obtain ⟨L2, hL2⟩ : ∃ L, L = m ++ l := ⟨_, rfl⟩; have O3 : w5.ownsRow w1.heap.size 5 1 v3 L.length (u8s L) := (by rw [hL]; simpa [u8s] using own35); have O5 : w5.ownsRow w3.heap.size 5 1 v5 L2.length (u8s L2) := (by rw [hL2]; simpa [u8s] using own5); have hLb : L.length ≤ 1048576 := (by rw [hL]; simpa using hbig); have hL2b : L2.length ≤ 1048576 := (by rw [hL2]; simp; omega); have HL := Lib.hid hL; have HL2 := Lib.hid hL2; clear hL hL2 own35 own5; have hmk := run_make_at elem8 L.length (by omega) (by omega); obtain ⟨a3, c3, rfl, _, _, at3, _, _⟩ := at_of_owns O3; obtain ⟨a5, c5, rfl, _, _, at5, _, _⟩ := at_of_owns O5))
  have hB : Below w.heap.size w w5 := (hB1.trans (hB3.mono z1)).trans (hB5.mono (by omega))
  clear O3 O5 hB1 hB3 hB5 ha3 hb3 ha1 hb1 hmk
  have zw : w.heap.size ≤ w5.heap.size := hB.size
  go_loopw [26] (fun i wr => ∃ k : Nat, k ≤ L.length ∧ i = .int .i64 k ∧ wr.ownsRow w5.heap.size 5 1 (.slice (some ⟨w5.heap.size, 0, none⟩) L.length L.length) L.length (u8s (bk L k)) ∧ Below w5.heap.size w5 wr) (fun i _ => L.length - (intOf i).toNat)
  case atStart =>
    refine ⟨0, by omega, rfl, ?_, (Below.refl _ _).alloc (Nat.le_refl _) _⟩
    have := owns_make w5 w5.heap.size 5 (.int .u8 0) 1 L.length (Nat.le_refl _) (by unfold maxLen; omega)
    rw [Nat.mul_one, madeCells_one _ _ rfl] at this
    have e : u8s (bk L 0) = List.replicate L.length (.int .u8 0) := by simp [u8s, bk]
    rw [e]; exact this
  case round =>
    obtain ⟨k, hk, rfl, own, hbr⟩ := hrel
    by_cases hlt : k < L.length
    · obtain ⟨b0, off, rfl, hcell⟩ := (at3.keep hbr) k _ (u8s_get L k hlt)
      have hc2 := own.cellAt (L.length - 1 - k) (by omega)
      rw [u8s_getD _ _ (by rw [bk_len L k hk]; omega)] at hc2
      have hfr := own.frozenAt (L.length - 1 - k)
      have hst := (own.stored (L.length - 1 - k) (.int .u8 (L[k].toNat : Int))).1
      have es : (u8s (bk L k)).set (L.length - 1 - k) (.int .u8 (L[k].toNat : Int)) = u8s (bk L (k + 1)) := by
        rw [← bk_step L k hlt]; simp [u8s, List.map_set]
      rw [es] at hst
      have hbs := hbr.setCell (p := ⟨w5.heap.size, L.length - 1 - k, none⟩) (Nat.le_refl _) (.int .u8 (L[k].toNat : Int))
      clear own es
      generalize (bk L k).getD (L.length - 1 - k) 0 = old at hc2
      generalize L[k] = x at hcell hst hbs
      have HS := Lib.hid hst
      clear hst at3 at5
      go_wp2
      go_roundw
      case rel => exact ⟨k + 1, by omega, by go_num, HS.out, hbs⟩
      case measure => simp [intOf]; omega
    · have hk' : k = L.length := by omega
      subst hk'
      obtain ⟨a7, c7, hv, _, _, at7, _, _⟩ := at_of_owns own
      have bl := bk_len L L.length (Nat.le_refl _)
      have hrev := small_rev L
      rw [bk_end] at at7 bl
      have hperm : smallN (nats L) = smallN (nats L2) := by rw [HL.out, HL2.out]; exact small_perm l m
      have hadd : smallN (nats L) = (smallN (nats l) + smallN (nats m)) % 256 := by rw [HL.out]; exact small_add l m
      have h3 := at3.keep hbr
      have h5 := at5.keep hbr
      have hbw := hB.trans (hbr.mono zw)
      have h1 := ha.keep hbw
      have h2 := hb.keep hbw
      have s1 := fun (W : World) (h : At W a (u8s l)) => small_calls a ca l W (by omega) h
      have s2 := fun (W : World) (h : At W b (u8s m)) => small_calls b cb m W (by omega) h
      have s3 := fun (W : World) (h : At W a3 (u8s L)) => small_calls a3 c3 L W (by omega) h
      have s5 := fun (W : World) (h : At W a5 (u8s L2)) => small_calls a5 c5 L2 W (by omega) h
      have s7 := fun (W : World) (h : At W a7 (u8s L.reverse)) => small_calls a7 L.length L.reverse W (by omega) h
      rw [bl] at s7
      cases hv
      have b1 := smallN_lt (nats l)
      have b2 := smallN_lt (nats m)
      generalize smallN (nats l) = y1 at s1 hadd b1
      generalize smallN (nats m) = y2 at s2 hadd b2
      generalize smallN (nats L.reverse) = y7 at s7 hrev
      generalize smallN (nats L2) = y5 at s5 hperm
      generalize smallN (nats L) = y3 at s3 hadd hrev hperm
      subst hrev
      subst hperm
      have hmod : (((y1 : Int) + (y2 : Int)) % 256) = (y3 : Int) := by omega
      have S1 := Lib.hid s1
      have S2 := Lib.hid s2
      have S3 := Lib.hid s3
      have S5 := Lib.hid s5
      have S7 := Lib.hid s7
      have at7K := Lib.hid at7
      clear s1 s2 s3 s5 s7 hadd bl own at3 at5 at7
      clear hlt hk ha hb hB
      go_wp2_with fail
      refine (S3.out _ h3).mono ?_
      rintro e w' ⟨rfl, rfl⟩
      go_wp2_with fail
      refine (S5.out _ h5).mono ?_
      rintro e w' ⟨rfl, rfl⟩
      go_wp2_with fail
      refine (S3.out _ h3).mono ?_
      rintro e w' ⟨rfl, rfl⟩
      go_wp2_with fail
      refine (S7.out _ at7K.out).mono ?_
      rintro e w' ⟨rfl, rfl⟩
      go_wp2_with fail
      refine (S3.out _ h3).mono ?_
      rintro e w' ⟨rfl, rfl⟩
      go_wp2_with fail
      refine (S1.out _ h1).mono ?_
      rintro e w' ⟨rfl, rfl⟩
      go_wp2_with fail
      refine (S2.out _ h2).mono ?_
      rintro e w' ⟨rfl, rfl⟩
      go_wp2_with fail
      go_ret
      exact ⟨rfl, hbw⟩

theorem opened (H : Type) (enc : TypeId × Value → H) (W : World) (base : Nat) (args : Array Value) (ds : List (DataW H)) (p : List MemPlace)
    (hval : ∀ (j : Nat) t v, Tryd.f5.params[j]? = some t → args[j]? = some v → Value.okWide Tryd.prog W .any base t v)
    (hA : DataW.TrodAll enc Tryd.prog W 0 (fun _ => true) true Tryd.f5.params.toList args.toList ds p)
    (_hr : ∀ x ∈ DataW.weightsEach Tryd.prog Tryd.f5.params.toList ds, x ≤ reachBytes)
    (hL : laidMetH Tryd.prog Rows.sumTurnsUptoRow.laid W) (hk : Rows.uptoSmall H ds = true) :
    Calls Tryd.prog 5 args W fun e W' => e = .returned (.bool true) ∧ Below W.heap.size W W' := by
  rw [Tryd.params5] at hA hval
  obtain ⟨v0, vs0, d0, ds0, p0, q0, hargs, rfl, rfl, h0, r0⟩ := trodAll_cons hA
  obtain ⟨v1, vs1, d1, ds1, p1, q1, rfl, rfl, rfl, h1, r1⟩ := trodAll_cons r0
  obtain ⟨rfl, rfl, rfl⟩ := trodAll_nil r1
  obtain rfl : args = #[v0, v1] := by cases args; simp_all
  obtain ⟨a, l, ca, rfl, ha, _, _, hd0⟩ := open_u8 Tryd.underlying22 Tryd.underlying5 cells8 (hval 0 22 v0 rfl rfl) h0
  obtain ⟨b, m, cb, rfl, hb, _, _, hd1⟩ := open_u8 Tryd.underlying22 Tryd.underlying5 cells8 (hval 1 22 v1 rfl rfl) h1
  have hbig : l.length + m.length ≤ 1048576 := by
    have h := bulk_le hk
    simp only [Rows.uptoBulkAll] at h
    have e0 := bulk_slice hd0
    have e1 := bulk_slice hd1
    omega
  exact walk a b ca cb l m W hbig ha hb (tab_of_laid hL)
end Go.Proofs.YtddhcemdkhhikaaDoor.sumTurns
