/- FixpKeeps: the walk, and the step from the law's arguments to it. -/
import Derived.Test.YtihjphfdgimmbaaFixpWakes
namespace Go.Proofs.Ytihjphfdgimmbaa.fixpKeeps
open Go.ChangeShapes Go.WideShapes Go.ChangeAt Go.RowKit Go.Proofs.Ytihjphfdgimmbaa.Bas Go.Proofs.Ytihjphfdgimmbaa.FixpM Go.Proofs.Ytihjphfdgimmbaa.FixpW Go.Proofs.Ytihjphfdgimmbaa.FixpR

theorem elem64 : Elem Try.prog 32 3 (.int .i64 0) 1 8 := ⟨Try.underlying32, by kernel_rfl, rfl, by decide⟩

set_option maxHeartbeats 4000000 in
theorem walk (a : Option Addr) (cap : Nat) (l : List Int) (w : World) (hbig : l.length * 8 ≤ 140737488351232) (ha : At w a (i64s l)) (hx : ∀ x ∈ l, I64 x) :
    Calls Try.prog 8 #[.slice a l.length cap] w fun e w' => e = .returned (.bool true) ∧ Below w.heap.size w w' := by
  have D0 := Lib.hid (fun W => wakes_calls W)
  have HX := Lib.hid hx
  clear hx
  go_enter Try.func8, Try.ntmps8
  go_wp2_with (first
    | (go_at_call 9; refine (D0.out _).mono ?_; rintro e w' ⟨rfl, n, rfl⟩; obtain ⟨w1, hw1⟩ : ∃ w1, w1 = w.drewN n := ⟨_, rfl⟩; have ha1 := ha.drewN n; have hB1 := below_drewN (Below.refl w.heap.size w) n; rw [← hw1] at ha1 hB1 ⊢; clear hw1; have z1 := hB1.size)
    | (at_builtin; refine wpList_append_at _ rfl (.tmp 8) (.tmp 9) elem64 rfl w1.heap.size (.slice (some ⟨w1.heap.size, 0, none⟩) 0 0) 0 [] rfl (owns_empty w1 _ _ _ (Nat.le_refl _)) a l.length cap (i64s l) rfl (by rw [i64s_len]; omega) (ha1.keep ((Below.refl _ _).alloc (Nat.le_refl _) _)) (one_i64 l) (by unfold maxLen; omega) (by omega) (by simp) ?_; intro v2 w2 own2 bel2 _ _; have hB2 := ((Below.refl w1.heap.size w1).alloc (Nat.le_refl _) _).trans bel2; have z2 := hB2.size; simp only [Nat.zero_add, List.nil_append] at own2)
    | (at_builtin; refine wpList_append_at _ rfl (.tmp 10) (.tmp 11) elem64 rfl w1.heap.size v2 l.length (i64s l) rfl (own2.alloc _) (some ⟨w2.heap.size, 0, none⟩) 1 1 [.int .i64 71] rfl rfl (at_alloc w2 #[.int .i64 71] _ _) (by simp [Value.oneCell']) (by unfold maxLen; omega) (by omega) (by simp; omega) ?_; intro v3 w3 own3 bel3 _ _; have hB3 := (hB2.alloc z2 _).trans bel3; have z3 := hB3.size; clear own2 bel2 bel3 hB2 z2; obtain ⟨g, c3, rfl, hg1, hg2⟩ := own3.form (by omega); have hlc : l.length ≤ c3 := (by obtain ⟨_, _, hv, _, hc, _⟩ := at_of_owns own3; cases hv; omega)))
  obtain ⟨a3, c4, hv, _, hcap, hat3, _, _⟩ := at_of_owns own3
  cases hv
  have hatl : At w3 (some ⟨g, 0, none⟩) (i64s l) := by
    have := hat3.take l.length
    rwa [List.take_left' (i64s_len l)] at this
  have hlast : w3.cell? ⟨g, l.length, none⟩ = some (.int .i64 71) := by
    have := own3.cellAt l.length (by omega)
    rw [this, List.getElem?_append_right (by rw [i64s_len]; omega), i64s_len, Nat.sub_self]; rfl
  have hB : Below w.heap.size w w3 := hB1.trans (hB3.mono z1)
  have ha3 := ha.keep hB
  have S := Lib.hid (fun W => sum_calls (some ⟨g, 0, none⟩) c3 l W (by omega))
  have P := Lib.hid (fun W => prod_calls (some ⟨g, 0, none⟩) c3 l W (by omega))
  have HL := Lib.hid hatl
  have HA := Lib.hid ha3
  clear hat3 hB1 hB3 ha1 hatl ha3 ha D0 own3 hg1
  go_wp2_with (first | (go_at_call 20; refine (S.out _ HL.out HX.out).mono ?_; rintro e w' ⟨rfl, rfl⟩) | (go_at_call 21; refine (P.out _ HL.out HX.out).mono ?_; rintro e w' ⟨rfl, rfl⟩))
  clear S P HX
  go_loop [25] (fun i => ∃ k : Nat, k ≤ l.length ∧ i = .int .i64 k) (fun i => l.length - (intOf i).toNat)
  case atStart => exact ⟨0, by omega, rfl⟩
  case round =>
    obtain ⟨k, hk, rfl⟩ := hrel
    by_cases hlt : k < l.length
    · obtain ⟨b, off, rfl, hcell⟩ := HA.out k _ (i64s_get l k hlt)
      obtain ⟨b2, off2, h2, hcell2⟩ := HL.out k _ (i64s_get l k hlt)
      simp only [Option.some.injEq, Addr.mk.injEq] at h2
      obtain ⟨rfl, rfl, _⟩ := h2
      rw [Nat.zero_add] at hcell2
      generalize l[k] = x at hcell hcell2
      clear hlast
      go_wp2_with fail
      go_round
      case rel => exact ⟨k + 1, by omega, by go_num⟩
      case measure => simp [intOf]; omega
    · go_wp2_with fail
      go_ret
      exact ⟨rfl, hB⟩

theorem bytes64 : Try.prog.bytesOf 3 = 8 := by kernel_rfl
theorem opened (H : Type) (enc : TypeId × Value → H) (W : World) (base : Nat) (args : Array Value) (ds : List (DataW H)) (p : List MemPlace)
    (hval : ∀ (j : Nat) t v, Try.f8.params[j]? = some t → args[j]? = some v → Value.okWide Try.prog W .any base t v)
    (hA : DataW.TrodAll enc Try.prog W 0 (fun _ => true) true Try.f8.params.toList args.toList ds p)
    (hr : ∀ x ∈ DataW.weightsEach Try.prog Try.f8.params.toList ds, x ≤ reachBytes)
    (_hL : laidMetH Try.prog Rows.fixpKeepsRow.laid W) :
    Calls Try.prog 8 args W fun e W' => e = .returned (.bool true) ∧ Below W.heap.size W W' := by
  rw [Try.params8] at hA hval hr
  obtain ⟨v0, vs0, d0, ds0, p0, q0, hargs, rfl, rfl, h0, r0⟩ := trodAll_cons hA
  obtain ⟨rfl, rfl, rfl⟩ := trodAll_nil r0
  obtain rfl : args = #[v0] := by cases args; simp_all
  obtain ⟨a, xs, cap, rfl, hat, hw, hl, hm, hd⟩ := open_row Try.underlying32 Try.underlying3 cells64 (hval 0 32 v0 rfl rfl) h0
  have hreach := reach_slice (n := xs.length) (cap := cap) Try.underlying32 hd (fun x hx => hr x (by simp [DataW.weightsEach, hx]))
  rw [bytes64] at hreach
  exact walk a cap xs W (by omega) hat (fun x hx => i64_wf (hw x hx))
end Go.Proofs.Ytihjphfdgimmbaa.fixpKeeps
