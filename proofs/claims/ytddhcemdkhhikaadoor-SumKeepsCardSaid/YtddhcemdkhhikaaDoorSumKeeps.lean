/- SumKeeps: the walk, and the step from the law's arguments to it. -/
import Derived.Test.YtddhcemdkhhikaaDoorSumWalks
namespace Go.Proofs.YtddhcemdkhhikaaDoor.sumKeeps
open Go.ChangeShapes Go.WideShapes Go.ChangeAt Go.RowKit Go.Proofs.YtddhcemdkhhikaaDoor.Bas Go.Proofs.YtddhcemdkhhikaaDoor.SumM Go.Proofs.YtddhcemdkhhikaaDoor.SumW

theorem elem8 : Elem Tryd.prog 22 5 (.int .u8 0) 1 1 := ⟨Tryd.underlying22, by kernel_rfl, rfl, by decide⟩

set_option maxHeartbeats 1000000 in
theorem walk (a : Option Addr) (cap : Nat) (l : List UInt8) (w : World) (hbig : l.length ≤ 140737488351232) (ha : At w a (u8s l)) (ht : Tab w) :
    Calls Tryd.prog 6 #[.slice a l.length cap] w fun e w' => e = .returned (.bool true) ∧ Below w.heap.size w w' := by
  have HT := Lib.hid ht
  clear ht
  go_enter Tryd.func6, Tryd.ntmps6
  go_wp2_with fail
  refine (wakes_calls _ HT.out).mono ?_
  rintro e w1 ⟨rfl, hB1⟩
  have ha1 := ha.keep hB1
  have z1 := hB1.size
  go_wp2_with (first
    | (at_builtin; refine wpList_append_at _ rfl (.tmp 9) (.tmp 10) elem8 rfl w1.heap.size (.slice (some ⟨w1.heap.size, 0, none⟩) 0 0) 0 [] rfl (owns_empty w1 _ _ _ (Nat.le_refl _)) a l.length cap (u8s l) rfl (by rw [u8s_len]; omega) (ha1.keep ((Below.refl _ _).alloc (Nat.le_refl _) _)) (one_u8 l) (by unfold maxLen; omega) (by omega) (by simp) ?_; intro v2 w2 own2 bel2 _ _; have hB2 := ((Below.refl w1.heap.size w1).alloc (Nat.le_refl _) _).trans bel2; have z2 := hB2.size; simp only [Nat.zero_add, List.nil_append] at own2)
    | (at_builtin; refine wpList_append_at _ rfl (.tmp 11) (.tmp 12) elem8 rfl w1.heap.size v2 l.length (u8s l) rfl (own2.alloc _) (some ⟨w2.heap.size, 0, none⟩) 1 1 [.int .u8 71] rfl rfl (at_alloc w2 #[.int .u8 71] _ _) (by simp [Value.oneCell']) (by unfold maxLen; omega) (by omega) (by simp; omega) ?_; intro v3 w3 own3 bel3 _ _; have hB3 := (hB2.alloc z2 _).trans bel3; have z3 := hB3.size; clear own2 bel2 bel3 hB2 z2; obtain ⟨g, c3, rfl, hg1, hg2⟩ := own3.form (by omega)))
  obtain ⟨a3, c4, hv, _, hcap, hat3, _, _⟩ := at_of_owns own3
  cases hv
  have hatl : At w3 (some ⟨g, 0, none⟩) (u8s l) := by
    have := hat3.take l.length
    rwa [List.take_left' (u8s_len l)] at this
  have hlast : w3.cell? ⟨g, l.length, none⟩ = some (.int .u8 71) := by
    have := own3.cellAt l.length (by omega)
    rw [this, List.getElem?_append_right (by rw [u8s_len]; omega), u8s_len, Nat.sub_self]; rfl
  have hB : Below w.heap.size w w3 := hB1.trans (hB3.mono z1)
  have ha3 := ha.keep hB
  have HT3 := Lib.hid (HT.out.keep hB)
  clear hat3 hB1 hB3 ha1
  have q1 := fun n => crc_calls (some ⟨g, 0, none⟩) c3 l (w3.drewN n) (by omega) (hatl.drewN n) HT3.out
  have q2 := fun n => small_calls (some ⟨g, 0, none⟩) c3 l (w3.drewN n) (by omega) (hatl.drewN n)
  have Q1 := Lib.hid q1
  have Q2 := Lib.hid q2
  clear q1 q2
  go_quiet ((first | (go_at_call 8; exact quiet_same (Q1.out _)) | (go_at_call 10; exact quiet_same (Q2.out _))))
  have own4 := owns_drewN own3 nq
  have hatl4 := hatl.drewN nq
  have hlast4 : (w3.drewN nq).cell? ⟨g, l.length, none⟩ = some (.int .u8 71) := hlast
  have hB4 := below_drewN hB nq
  have hg4 : g < (w3.drewN nq).heap.size := hg2
  have z4 : w1.heap.size ≤ (w3.drewN nq).heap.size := z3
  clear own3 hatl hlast hB ha3 HT3 Q1 Q2 hg2 z3
  generalize w3.drewN nq = w4 at own4 hatl4 hlast4 hB4 hg4 z4 ⊢
  have ha4 := ha.keep hB4
  go_wp2_with fail
  have s1 := fun n => run_str_at (w4.drewN n) Tryd.underlying22 Tryd.underlying5 Tryd.underlying9 (some ⟨g, 0, none⟩) c3 l (hatl4.drewN n)
  have s2 := fun n => run_str_at (w4.drewN n) Tryd.underlying22 Tryd.underlying5 Tryd.underlying9 a cap l (ha4.drewN n)
  go_quiet (fail)
  clear s1 s2
  have own5 := owns_drewN own4 nq
  have hB5 := below_drewN hB4 nq
  clear own4 hatl4 hlast4 hB4 ha4
  generalize w4.drewN nq = w5 at own5 hB5 ⊢
  go_wp2_with fail
  go_loopw [42] (fun i wr => ∃ k : Nat, k ≤ l.length + 1 ∧ i = .int .i64 k ∧ (∃ xs, wr.ownsRow w1.heap.size 5 1 (.slice (some ⟨g, 0, none⟩) (l.length + 1) c3) (l.length + 1) xs) ∧ Below w.heap.size w wr) (fun i _ => l.length + 1 - (intOf i).toNat)
  case atStart => exact ⟨0, by omega, rfl, ⟨_, own5⟩, hB5⟩
  case round =>
    clear own5 hB5
    obtain ⟨k, hk, rfl, ⟨xs, own⟩, hbr⟩ := hrel
    by_cases hlt : k < l.length + 1
    · have hlen := own.1
      have hc := own.cellAt k (by omega)
      rw [List.getElem?_eq_getElem (by omega)] at hc
      have hf := own.frozenAt k
      have hst := Lib.hid ((own.stored k (.int .u8 9)).1)
      have hbs := hbr.setCell (p := ⟨g, k, none⟩) (by show w.heap.size ≤ g; omega) (.int .u8 9)
      generalize xs[k] = old at hc
      clear own hlen
      go_wp2
      go_roundw
      case rel => exact ⟨k + 1, by omega, by go_num, ⟨_, hst.out⟩, hbs⟩
      case measure => simp [intOf]; omega
    · have har := ha.keep hbr
      have HTr := Lib.hid (HT.out.keep hbr)
      have K1 := Lib.hid (fun W => crc_calls a cap l W (by omega))
      have K2 := Lib.hid (fun W => small_calls a cap l W (by omega))
      clear HT ha own
      go_wp2_with fail
      refine (K1.out _ har HTr.out).mono ?_
      rintro e w' ⟨rfl, rfl⟩
      go_wp2_with fail
      refine (K2.out _ har).mono ?_
      rintro e w' ⟨rfl, rfl⟩
      go_wp2_with fail
      go_ret
      exact ⟨rfl, hbr⟩

theorem opened (H : Type) (enc : TypeId × Value → H) (W : World) (base : Nat) (args : Array Value) (ds : List (DataW H)) (p : List MemPlace)
    (hval : ∀ (j : Nat) t v, Tryd.f6.params[j]? = some t → args[j]? = some v → Value.okWide Tryd.prog W .any base t v)
    (hA : DataW.TrodAll enc Tryd.prog W 0 (fun _ => true) true Tryd.f6.params.toList args.toList ds p)
    (hr : ∀ x ∈ DataW.weightsEach Tryd.prog Tryd.f6.params.toList ds, x ≤ reachBytes)
    (hL : laidMetH Tryd.prog Rows.sumKeepsRow.laid W) :
    Calls Tryd.prog 6 args W fun e W' => e = .returned (.bool true) ∧ Below W.heap.size W W' := by
  rw [Tryd.params6] at hA hval hr
  obtain ⟨v0, vs0, d0, ds0, p0, q0, hargs, rfl, rfl, h0, r0⟩ := trodAll_cons hA
  obtain ⟨rfl, rfl, rfl⟩ := trodAll_nil r0
  obtain rfl : args = #[v0] := by cases args; simp_all
  obtain ⟨a, l, cap, rfl, hat, hl, hm, hd⟩ := open_u8 Tryd.underlying22 Tryd.underlying5 cells8 (hval 0 22 v0 rfl rfl) h0
  have hreach := reach_slice (n := l.length) (cap := cap) Tryd.underlying22 hd (fun x hx => hr x (by simp [DataW.weightsEach, hx]))
  rw [bytes8] at hreach
  exact walk a cap l W (by omega) hat (tab_of_laid hL)
end Go.Proofs.YtddhcemdkhhikaaDoor.sumKeeps
