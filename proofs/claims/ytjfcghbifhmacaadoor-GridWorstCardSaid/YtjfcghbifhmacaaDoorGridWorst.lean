/- GridWorst: Worst, the law, and the step from the law's argument to it. -/
import Derived.Test.YtjfcghbifhmacaaDoorGridLawBase
namespace Go.Proofs.YtjfcghbifhmacaaDoor.gridWorst
open Go.ChangeShapes Go.WideShapes Go.ChangeAt Go.RowKit Go.Proofs.YtjfcghbifhmacaaDoor.Bas Go.Proofs.YtjfcghbifhmacaaDoor.FixpM Go.Proofs.YtjfcghbifhmacaaDoor.FixpW Go.Proofs.YtjfcghbifhmacaaDoor.OptW Go.Proofs.YtjfcghbifhmacaaDoor.GridW

/-- the first place of the greatest of the first ones -/
def best (L : List Int) : Nat → Nat
  | 0 => 0
  | n + 1 => if L.getD (best L n) 0 < L.getD n 0 then n else best L n
theorem best_le (L : List Int) : ∀ n, best L n ≤ n
  | 0 => Nat.le_refl _
  | n + 1 => by
    have := best_le L n
    simp only [best]; split <;> omega
theorem best_lt (L : List Int) (n : Nat) (h : n ≤ 21) : best L n < 21 := by
  cases n with
  | zero => simp [best]
  | succ n =>
    have := best_le L n
    simp only [best]; split <;> omega
theorem best_top (L : List Int) : ∀ n j, j < n → L.getD j 0 ≤ L.getD (best L n) 0 ∧ (j < best L n → L.getD j 0 < L.getD (best L n) 0)
  | 0, j, h => by omega
  | n + 1, j, h => by
    simp only [best]
    have hb := best_le L n
    split
    · rename_i hlt
      by_cases hj : j = n
      · subst hj; exact ⟨Int.le_refl _, fun h => by omega⟩
      · have := (best_top L n j (by omega)).1
        exact ⟨by omega, fun _ => by omega⟩
    · rename_i hge
      by_cases hj : j = n
      · subst hj; exact ⟨by omega, fun h => by omega⟩
      · exact best_top L n j (by omega)

theorem index_run (L : List Int) (hl : L.length = 21) (j : Nat) (hj : j < 21) (w : World) : (Instr.index 27 (.agg (i64s L).toArray) (.int .i64 (j : Int))).run Tryd.prog w = .ok (.int .i64 (L.getD j 0)) w :=
  run_index_ints (P := Tryd.prog) w 27 3 21 .i64 Tryd.underlying27 Tryd.underlying3 (fun w => by kernel_rfl) L hl j hj

set_option maxHeartbeats 1000000 in
set_option maxRecDepth 100000 in
theorem worst_calls (L : List Int) (hl : L.length = 21) (w : World) :
    Calls Tryd.prog 17 #[.agg (i64s L).toArray] w fun e w' => e = .returned (.tuple #[.int .i64 (L.getD (best L 21) 0), .int .i64 (best L 21 : Nat)]) ∧ Below w.heap.size w w' := by
  have HL := Lib.hid hl
  have X := Box.new w 27 (i64s L).toArray
  have hB : Below w.heap.size w (w.alloc (.cells (i64s L).toArray 27)) := (Below.refl _ _).alloc (Nat.le_refl _) _
  have HI := Lib.hid (index_run L hl)
  clear hl
  go_enter Tryd.func17, Tryd.ntmps17
  go_upto_region 1 with fail
  generalize w.alloc (.cells (i64s L).toArray 27) = w0 at X hB ⊢
  go_wp2_with (first | ((with_reducible refine wpList_load_box rfl 27 (.tmp 1) rfl X Tryd.underlying27 ?_ ?_ ?_ ?_); (· rfl); (· exact size21 _ (by simp [i64s, HL.out])); (· rfl)))
  go_loop [4, 8] (fun a i => ∃ j : Nat, j ≤ 21 ∧ i = .int .i64 j ∧ a = .int .i64 (best L j : Nat)) (fun _ i => 21 - (intOf i).toNat)
  case atStart => exact ⟨0, by omega, rfl, rfl⟩
  case round =>
    obtain ⟨j, hj, rfl, rfl⟩ := hrel
    have hb := best_lt L j hj
    by_cases hlt : j < 21
    · have hi := HI.out j hlt
      have g : w0.cell? ⟨w.heap.size, best L j, none⟩ = some (.int .i64 (L.getD (best L j) 0)) := (X.cell _).trans (by have := i64s_getD L (best L j) (by rw [HL.out]; omega); simpa using this)
      have e1 : L.getD (best L j) 0 < L.getD j 0 → best L (j + 1) = j := fun h => by simp only [best]; rw [if_pos h]
      have e2 : ¬ L.getD (best L j) 0 < L.getD j 0 → best L (j + 1) = best L j := fun h => by simp only [best]; rw [if_neg h]
      have E1 := Lib.hid e1
      have E2 := Lib.hid e2
      clear e1 e2
      obtain ⟨m, hm⟩ : ∃ m, best L j = m := ⟨_, rfl⟩
      rw [hm] at hb g E1 E2 ⊢
      generalize L.getD j 0 = a at *
      generalize L.getD m 0 = b at *
      have HM := Lib.hid hm
      clear hm
      by_cases ht : b < a
      · have E := Lib.hid (E1.out ht)
        go_wp2_with fail
        go_round
        case rel => exact ⟨j + 1, by omega, by go_num, by rw [E.out]⟩
        case measure => simp [intOf]; omega
      · have E := Lib.hid (E2.out ht)
        go_wp2_with fail
        go_round
        case rel => exact ⟨j + 1, by omega, by go_num, by rw [E.out]⟩
        case measure => simp [intOf]; omega
    · obtain rfl : j = 21 := by omega
      have g : w0.cell? ⟨w.heap.size, best L 21, none⟩ = some (.int .i64 (L.getD (best L 21) 0)) := (X.cell _).trans (by have := i64s_getD L (best L 21) (by rw [HL.out]; omega); simpa using this)
      have hv : ∃ b, b = L.getD (best L 21) 0 := ⟨_, rfl⟩
      obtain ⟨b, hbv⟩ := hv
      rw [← hbv] at g
      have HV := Lib.hid hbv
      clear hbv
      go_wp2_with fail
      go_ret2
      exact ⟨ret_pair HV.out rfl, hB⟩

set_option maxHeartbeats 1000000 in
set_option maxRecDepth 100000 in
theorem walk (L : List Int) (hl : L.length = 21) (w : World) (ht : Tab w) :
    Calls Tryd.prog 6 #[.agg (i64s L).toArray] w fun e w' => e = .returned (.bool true) ∧ Below w.heap.size w w' := by
  have HL := Lib.hid hl
  have X := Box.new w 27 (i64s L).toArray
  have hB : Below w.heap.size w (w.alloc (.cells (i64s L).toArray 27)) := (Below.refl _ _).alloc (Nat.le_refl _) _
  have HI := Lib.hid (index_run L hl)
  have D0 := Lib.hid (fun W (h : Tab W) => wakes_calls W h)
  have hC := fun W => worst_calls L hl W
  have hm := best_lt L 21 (by omega)
  have hT := best_top L 21
  have hG : (i64s L).toArray[best L 21]? = some (.int .i64 (L.getD (best L 21) 0)) := by have := i64s_getD L (best L 21) (by omega); simpa using this
  generalize best L 21 = m at hC hm hT hG
  have HG := Lib.hid hG
  obtain ⟨b, hbv⟩ : ∃ b, b = L.getD m 0 := ⟨_, rfl⟩
  rw [← hbv] at hC hT HG
  have HC := Lib.hid hC
  have HTop := Lib.hid hT
  have HT := Lib.hid ht
  clear hl ht hC hT hbv hG
  go_enter Tryd.func6, Tryd.ntmps6
  go_upto_region 1 with fail
  generalize w.alloc (.cells (i64s L).toArray 27) = w0 at X hB ⊢
  go_wp2_with (first
    | (go_at_call 8; refine (D0.out _ (HT.out.keep hB)).mono ?_; rintro e w1 ⟨rfl, b1⟩; clear D0; have X1 := X.keep b1; have hB1 := hB.trans (b1.mono hB.size); clear hB X)
    | ((with_reducible refine wpList_load_box rfl 27 (.tmp 1) rfl X1 Tryd.underlying27 ?_ ?_ ?_ ?_); (· rfl); (· exact size21 _ (by simp [i64s, HL.out])); (· rfl))
    | (go_at_call 17; refine (HC.out _).mono ?_; rintro e w2 ⟨rfl, b2⟩; have X2 := X1.keep b2; have hB2 := hB1.trans (b2.mono hB1.size); have g : w2.cell? ⟨w.heap.size, m, none⟩ = some (.int .i64 b) := (X2.cell m).trans HG.out; clear hB1 HC)
    | ((with_reducible refine wpList_load_box rfl 27 (.tmp 1) rfl X2 Tryd.underlying27 ?_ ?_ ?_ ?_); (· rfl); (· exact size21 _ (by simp [i64s, HL.out])); (· rfl)))
  go_loop [28] (fun i => ∃ j : Nat, j ≤ 21 ∧ i = .int .i64 j) (fun i => 21 - (intOf i).toNat)
  case atStart => exact ⟨0, by omega, rfl⟩
  case round =>
    obtain ⟨j, hj, rfl⟩ := hrel
    by_cases hlt : j < 21
    · have hi := HI.out j hlt
      obtain ⟨t1, t2⟩ := HTop.out j hlt
      generalize L.getD j 0 = a at *
      by_cases hjm : j < m
      · have t3 := t2 hjm
        have t4 : (a == b) = false := by simp; omega
        clear t2
        go_wp2_with fail
        go_round
        case rel => exact ⟨j + 1, by omega, by go_num⟩
        case measure => simp [intOf]; omega
      · clear t2
        by_cases hab : a = b
        · subst hab
          go_wp2_with fail
          go_round
          case rel => exact ⟨j + 1, by omega, by go_num⟩
          case measure => simp [intOf]; omega
        · have t4 : (a == b) = false := by simp; omega
          go_wp2_with fail
          go_round
          case rel => exact ⟨j + 1, by omega, by go_num⟩
          case measure => simp [intOf]; omega
    · obtain rfl : j = 21 := by omega
      go_wp2_with fail
      go_ret
      exact ⟨rfl, hB2⟩

theorem opened (H : Type) (enc : TypeId × Value → H) (W : World) (base : Nat) (args : Array Value) (ds : List (DataW H)) (p : List MemPlace)
    (hval : ∀ (j : Nat) t v, Tryd.f6.params[j]? = some t → args[j]? = some v → Value.okWide Tryd.prog W .any base t v)
    (hA : DataW.TrodAll enc Tryd.prog W 0 (fun _ => true) true Tryd.f6.params.toList args.toList ds p)
    (hr : ∀ x ∈ DataW.weightsEach Tryd.prog Tryd.f6.params.toList ds, x ≤ reachBytes)
    (hL : laidMetH Tryd.prog Rows.gridWorstRow.laid W) :
    Calls Tryd.prog 6 args W fun e W' => e = .returned (.bool true) ∧ Below W.heap.size W W' := by
  rw [Tryd.params6] at hA hval hr
  obtain ⟨v0, vs0, d0, ds0, p0, q0, hargs, rfl, rfl, h0, r0⟩ := trodAll_cons hA
  obtain ⟨rfl, rfl, rfl⟩ := trodAll_nil r0
  obtain rfl : args = #[v0] := by cases args; simp_all
  obtain ⟨zs, rfl, hz, _⟩ := open_arr_int Tryd.underlying27 Tryd.underlying3 cells64 (by kernel_rfl) (hval 0 27 v0 rfl rfl) h0
  exact walk zs hz W (tab_of_laid hL)
end Go.Proofs.YtjfcghbifhmacaaDoor.gridWorst
