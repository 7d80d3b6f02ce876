/- What slices.Clone, slices.Equal and the document's comparisons answer at each list of a ledger. Written by genlists.py. -/
import Derived.Test.YtocjfjikkdpfdaaGreatDoorLedMath
import Derived.Test.YtocjfjikkdpfdaaGreatDoorBase
import Derived.Test.YtocjfjikkdpfdaaGreatDoorRows
import Derived.Laws.StructEq
import Derived.WalkSpells
import Derived.WalkLawsBesides
set_option linter.unusedSimpArgs false
set_option linter.unusedVariables false
namespace Go.Proofs.YtocjfjikkdpfdaaGreatDoor.LedW
open Go.RowKit Go.Proofs.YtocjfjikkdpfdaaGreatDoor.Bas Go.Proofs.YtocjfjikkdpfdaaGreatDoor.LedM

theorem ret_bool {a b : Bool} (h : a = b) : Ending.returned (.bool a) = .returned (.bool b) := by rw [h]
theorem take_eq_succ {α : Type} (xs ys : List α) (k : Nat) (hx : k < xs.length) (hy : k < ys.length) : xs.take (k + 1) = ys.take (k + 1) ↔ xs.take k = ys.take k ∧ xs[k] = ys[k] := by
  rw [List.take_succ_eq_append_getElem hx, List.take_succ_eq_append_getElem hy]
  constructor
  · intro h
    have := List.append_inj h (by simp; omega)
    exact ⟨this.1, by simpa using this.2⟩
  · rintro ⟨h1, h2⟩
    rw [h1, h2]
theorem run_eql_slice_nil {P : Program} (w : World) (t e : TypeId) (a : Option Addr) (l c : Nat) (h : P.underlying t = some (.slice e)) : (binOp .eql t (.slice a l c) (.slice none 0 0)).run P w = .ok (.bool a.isNone) w := by
  simp only [binOp]
  simp [run_equal_slice_nil w t e a l c h]
theorem none_nil {α : Type} {f : α → List Value} {n : Nat} (hf : ∀ x, (f x).length = n) (hn : 0 < n) {w : World} {xs : List α} (h : At w none (xs.flatMap f)) : xs = [] := by
  cases xs with
  | nil => rfl
  | cons x r =>
    obtain ⟨b, off, h, _⟩ := rec_at hf hn h (k := 0) (by simp)
    cases h
theorem one_flat {α : Type} {f : α → List Value} (h1 : ∀ x, ∀ u ∈ f x, u.oneCell' = true) (xs : List α) : ∀ u ∈ xs.flatMap f, u.oneCell' = true := by
  intro u hu
  obtain ⟨x, _, hu⟩ := List.mem_flatMap.1 hu
  exact h1 x u hu

theorem elem_cur : Elem Tryz.prog 22 55 (.agg #[.int .i64 0, .int .i64 0]) 2 16 := ⟨Tryz.underlying22, by kernel_rfl, rfl, by decide⟩
theorem len_cur (x : Int × Int) : (curC x).length = 2 := rfl
theorem one_cur (x : Int × Int) : ∀ u ∈ curC x, u.oneCell' = true := by
  intro u hu
  simp [curC] at hu
  rcases hu with rfl | rfl <;> rfl
theorem neq_cur (W : World) (x0 : Int) (x1 : Int) (y0 : Int) (y1 : Int) : (binOp .neq 55 (.agg #[.int .i64 x0, .int .i64 x1]) (.agg #[.int .i64 y0, .int .i64 y1])).run Tryz.prog W = .ok (.bool (!((x0 == y0) && (x1 == y1)))) W := by
  by_cases h0 : x0 = y0
  rotate_left
  · simp [go_sem, h0]
  subst h0
  by_cases h1 : x1 = y1
  rotate_left
  · simp [go_sem, h1]
  subst h1
  simp [go_sem]
theorem elem_und : Elem Tryz.prog 23 57 (.agg #[.string ⟨#[]⟩, .int .i64 0, .int .i64 0, .int .i64 0]) 4 40 := ⟨Tryz.underlying23, by kernel_rfl, rfl, by decide⟩
theorem len_und (x : Und) : (undC x).length = 4 := rfl
theorem one_und (x : Und) : ∀ u ∈ undC x, u.oneCell' = true := by
  intro u hu
  simp [undC] at hu
  rcases hu with rfl | rfl | rfl | rfl <;> rfl
theorem neq_und (W : World) (x0 : List UInt8) (x1 : Int) (x2 : Int) (x3 : Int) (y0 : List UInt8) (y1 : Int) (y2 : Int) (y3 : Int) : (binOp .neq 57 (.agg #[.string ⟨x0.toArray⟩, .int .i64 x1, .int .i64 x2, .int .i64 x3]) (.agg #[.string ⟨y0.toArray⟩, .int .i64 y1, .int .i64 y2, .int .i64 y3])).run Tryz.prog W = .ok (.bool (!((x0 == y0) && (x1 == y1) && (x2 == y2) && (x3 == y3)))) W := by
  by_cases h0 : x0 = y0
  rotate_left
  · simp [go_sem, h0]
  subst h0
  by_cases h1 : x1 = y1
  rotate_left
  · simp [go_sem, h1]
  subst h1
  by_cases h2 : x2 = y2
  rotate_left
  · simp [go_sem, h2]
  subst h2
  by_cases h3 : x3 = y3
  rotate_left
  · simp [go_sem, h3]
  subst h3
  simp [go_sem]
theorem elem_ins : Elem Tryz.prog 24 60 (.agg #[.int .i64 0, .int .i64 0, .int .i64 0, .int .i64 0, .int .i64 0, .bool false, .int .i64 0]) 7 56 := ⟨Tryz.underlying24, by kernel_rfl, rfl, by decide⟩
theorem len_ins (x : Ins) : (insC x).length = 7 := rfl
theorem one_ins (x : Ins) : ∀ u ∈ insC x, u.oneCell' = true := by
  intro u hu
  simp [insC] at hu
  rcases hu with rfl | rfl | rfl | rfl | rfl | rfl | rfl <;> rfl
theorem neq_ins (W : World) (x0 : Int) (x1 : Int) (x2 : Int) (x3 : Int) (x4 : Int) (x5 : Bool) (x6 : Int) (y0 : Int) (y1 : Int) (y2 : Int) (y3 : Int) (y4 : Int) (y5 : Bool) (y6 : Int) : (binOp .neq 60 (.agg #[.int .i64 x0, .int .i64 x1, .int .i64 x2, .int .i64 x3, .int .i64 x4, .bool x5, .int .i64 x6]) (.agg #[.int .i64 y0, .int .i64 y1, .int .i64 y2, .int .i64 y3, .int .i64 y4, .bool y5, .int .i64 y6])).run Tryz.prog W = .ok (.bool (!((x0 == y0) && (x1 == y1) && (x2 == y2) && (x3 == y3) && (x4 == y4) && (x5 == y5) && (x6 == y6)))) W := by
  by_cases h0 : x0 = y0
  rotate_left
  · simp [go_sem, h0]
  subst h0
  by_cases h1 : x1 = y1
  rotate_left
  · simp [go_sem, h1]
  subst h1
  by_cases h2 : x2 = y2
  rotate_left
  · simp [go_sem, h2]
  subst h2
  by_cases h3 : x3 = y3
  rotate_left
  · simp [go_sem, h3]
  subst h3
  by_cases h4 : x4 = y4
  rotate_left
  · simp [go_sem, h4]
  subst h4
  by_cases h5 : x5 = y5
  rotate_left
  · simp [go_sem, h5]
  subst h5
  by_cases h6 : x6 = y6
  rotate_left
  · simp [go_sem, h6]
  subst h6
  simp [go_sem]
theorem elem_pos : Elem Tryz.prog 26 63 (.agg #[.int .i64 0, .int .i64 0, .int .i64 0]) 3 24 := ⟨Tryz.underlying26, by kernel_rfl, rfl, by decide⟩
theorem len_pos (x : Tri) : (triC x).length = 3 := rfl
theorem one_pos (x : Tri) : ∀ u ∈ triC x, u.oneCell' = true := by
  intro u hu
  simp [triC] at hu
  rcases hu with rfl | rfl | rfl <;> rfl
theorem neq_pos (W : World) (x0 : Int) (x1 : Int) (x2 : Int) (y0 : Int) (y1 : Int) (y2 : Int) : (binOp .neq 63 (.agg #[.int .i64 x0, .int .i64 x1, .int .i64 x2]) (.agg #[.int .i64 y0, .int .i64 y1, .int .i64 y2])).run Tryz.prog W = .ok (.bool (!((x0 == y0) && (x1 == y1) && (x2 == y2)))) W := by
  by_cases h0 : x0 = y0
  rotate_left
  · simp [go_sem, h0]
  subst h0
  by_cases h1 : x1 = y1
  rotate_left
  · simp [go_sem, h1]
  subst h1
  by_cases h2 : x2 = y2
  rotate_left
  · simp [go_sem, h2]
  subst h2
  simp [go_sem]
set_option maxHeartbeats 1000000 in
theorem rsame_pos (a b : Option Addr) (ca cb : Nat) (xs ys : List (Tri)) (w : World) (hbig : xs.length ≤ 9223372036854775807) (hbig2 : ys.length ≤ 9223372036854775807) (ha : At w a (xs.flatMap triC)) (hb : At w b (ys.flatMap triC)) :
    Calls Tryz.prog 24 #[.slice a xs.length ca, .slice b ys.length cb] w fun e w' => e = .returned (.bool (decide (xs = ys))) ∧ ∃ n, w' = w.drewN n := by
  have HA := Lib.hid ha
  have HB := Lib.hid hb
  clear ha hb
  go_enter Tryz.func24, Tryz.ntmps24
  by_cases hl : xs.length = ys.length
  · have hlb : ((xs.length : Int) != (ys.length : Int)) = false := by simp [hl]
    have HL := Lib.hid hl
    clear hl
    go_wp2_with fail
    go_loopw [13] (fun i wr => ∃ k : Nat, k ≤ xs.length ∧ i = .int .i64 k ∧ (∃ n, wr = w.drewN n) ∧ Hid (xs.take k = ys.take k)) (fun i _ => xs.length - (intOf i).toNat)
    case atStart => exact ⟨0, by omega, rfl, ⟨0, rfl⟩, by simp [Hid]⟩
    case round =>
      obtain ⟨k, hk, rfl, ⟨n, rfl⟩, H⟩ := hrel
      by_cases hlt : k < xs.length
      · have hlt2 : k < ys.length := by have := HL.out; omega
        obtain ⟨b1, off1, rfl, C1⟩ := rec_at len_pos (by decide) HA.out hlt
        obtain ⟨b2, off2, rfl, C2⟩ := rec_at len_pos (by decide) HB.out hlt2
        have hm := take_eq_succ xs ys k hlt hlt2
        generalize hxk : xs[k] = x at *
        generalize hyk : ys[k] = y at *
        have HXK := Lib.hid hxk
        have HYK := Lib.hid hyk
        clear hxk hyk
        obtain ⟨x0, x1, x2⟩ := x
        obtain ⟨y0, y1, y2⟩ := y
        have c0 := C1 0 _ rfl
        have c1 := C1 1 _ rfl
        have c2 := C1 2 _ rfl
        have d0 := C2 0 _ rfl
        have d1 := C2 1 _ rfl
        have d2 := C2 2 _ rfl
        clear C1 C2
        simp only [← Nat.add_assoc, Nat.add_zero] at c0 c1 c2 d0 d1 d2
        by_cases he : ((x0, x1, x2) : Tri) = (y0, y1, y2)
        · have HI : Hid (xs.take (k + 1) = ys.take (k + 1)) := hm.2 ⟨H.out, he⟩
          cases he
          have hq := fun W => neq_pos W x0 x1 x2 x0 x1 x2
          simp only [beq_self_eq_true, Bool.and_self, Bool.not_true] at hq
          clear hm H
          go_wp2_with fail
          go_quiet (fail)
          all_goals
            go_wp2_with fail
            go_roundw
            case rel => exact ⟨k + 1, by omega, by go_num, ⟨_, rfl⟩, HI⟩
            case measure => simp [intOf]; omega
        · have HI : Hid (xs ≠ ys) := fun h => he (by
            subst h
            exact HXK.out.symm.trans HYK.out)
          have heb : (!((x0 == y0) && (x1 == y1) && (x2 == y2))) = true := by
            rw [Bool.not_eq_true', Bool.eq_false_iff]
            intro h
            simp only [Bool.and_eq_true, beq_iff_eq] at h
            exact he (by simp [h])
          have hq := fun W => neq_pos W x0 x1 x2 y0 y1 y2
          rw [heb] at hq
          clear hm H heb he
          go_wp2_with fail
          go_quiet (fail)
          all_goals
            go_wp2_with fail
            go_ret
            exact ⟨ret_bool (by simpa using HI.out), _, World.drewN_drewN _ _ _⟩
      · have hkk : k = xs.length := by omega
        subst hkk
        have HI : Hid (xs = ys) := by
          have := H.out
          rwa [List.take_length, HL.out, List.take_length] at this
        clear H
        go_wp2_with fail
        go_ret
        exact ⟨ret_bool (by simpa using HI.out), _, rfl⟩
  · have hne : xs ≠ ys := fun h => hl (by rw [h])
    have hlb : ((xs.length : Int) != (ys.length : Int)) = true := by simp; omega
    have HI := Lib.hid hne
    clear hl hne
    go_wp2_with fail
    go_ret
    exact ⟨ret_bool (by simpa using HI.out), 0, rfl⟩

theorem elem_ord : Elem Tryz.prog 27 65 (.agg #[.int .i64 0, .int .i64 0, .int .i64 0, .int .i64 0, .int .i64 0]) 5 40 := ⟨Tryz.underlying27, by kernel_rfl, rfl, by decide⟩
theorem len_ord (x : Ord) : (ordC x).length = 5 := rfl
theorem one_ord (x : Ord) : ∀ u ∈ ordC x, u.oneCell' = true := by
  intro u hu
  simp [ordC] at hu
  rcases hu with rfl | rfl | rfl | rfl | rfl <;> rfl
theorem neq_ord (W : World) (x0 : Int) (x1 : Int) (x2 : Int) (x3 : Int) (x4 : Int) (y0 : Int) (y1 : Int) (y2 : Int) (y3 : Int) (y4 : Int) : (binOp .neq 65 (.agg #[.int .i64 x0, .int .i64 x1, .int .i64 x2, .int .i64 x3, .int .i64 x4]) (.agg #[.int .i64 y0, .int .i64 y1, .int .i64 y2, .int .i64 y3, .int .i64 y4])).run Tryz.prog W = .ok (.bool (!((x0 == y0) && (x1 == y1) && (x2 == y2) && (x3 == y3) && (x4 == y4)))) W := by
  by_cases h0 : x0 = y0
  rotate_left
  · simp [go_sem, h0]
  subst h0
  by_cases h1 : x1 = y1
  rotate_left
  · simp [go_sem, h1]
  subst h1
  by_cases h2 : x2 = y2
  rotate_left
  · simp [go_sem, h2]
  subst h2
  by_cases h3 : x3 = y3
  rotate_left
  · simp [go_sem, h3]
  subst h3
  by_cases h4 : x4 = y4
  rotate_left
  · simp [go_sem, h4]
  subst h4
  simp [go_sem]
set_option maxHeartbeats 1000000 in
theorem rsame_ord (a b : Option Addr) (ca cb : Nat) (xs ys : List (Ord)) (w : World) (hbig : xs.length ≤ 9223372036854775807) (hbig2 : ys.length ≤ 9223372036854775807) (ha : At w a (xs.flatMap ordC)) (hb : At w b (ys.flatMap ordC)) :
    Calls Tryz.prog 25 #[.slice a xs.length ca, .slice b ys.length cb] w fun e w' => e = .returned (.bool (decide (xs = ys))) ∧ ∃ n, w' = w.drewN n := by
  have HA := Lib.hid ha
  have HB := Lib.hid hb
  clear ha hb
  go_enter Tryz.func25, Tryz.ntmps25
  by_cases hl : xs.length = ys.length
  · have hlb : ((xs.length : Int) != (ys.length : Int)) = false := by simp [hl]
    have HL := Lib.hid hl
    clear hl
    go_wp2_with fail
    go_loopw [13] (fun i wr => ∃ k : Nat, k ≤ xs.length ∧ i = .int .i64 k ∧ (∃ n, wr = w.drewN n) ∧ Hid (xs.take k = ys.take k)) (fun i _ => xs.length - (intOf i).toNat)
    case atStart => exact ⟨0, by omega, rfl, ⟨0, rfl⟩, by simp [Hid]⟩
    case round =>
      obtain ⟨k, hk, rfl, ⟨n, rfl⟩, H⟩ := hrel
      by_cases hlt : k < xs.length
      · have hlt2 : k < ys.length := by have := HL.out; omega
        obtain ⟨b1, off1, rfl, C1⟩ := rec_at len_ord (by decide) HA.out hlt
        obtain ⟨b2, off2, rfl, C2⟩ := rec_at len_ord (by decide) HB.out hlt2
        have hm := take_eq_succ xs ys k hlt hlt2
        generalize hxk : xs[k] = x at *
        generalize hyk : ys[k] = y at *
        have HXK := Lib.hid hxk
        have HYK := Lib.hid hyk
        clear hxk hyk
        obtain ⟨x0, x1, x2, x3, x4⟩ := x
        obtain ⟨y0, y1, y2, y3, y4⟩ := y
        have c0 := C1 0 _ rfl
        have c1 := C1 1 _ rfl
        have c2 := C1 2 _ rfl
        have c3 := C1 3 _ rfl
        have c4 := C1 4 _ rfl
        have d0 := C2 0 _ rfl
        have d1 := C2 1 _ rfl
        have d2 := C2 2 _ rfl
        have d3 := C2 3 _ rfl
        have d4 := C2 4 _ rfl
        clear C1 C2
        simp only [← Nat.add_assoc, Nat.add_zero] at c0 c1 c2 c3 c4 d0 d1 d2 d3 d4
        by_cases he : (⟨x0, x1, x2, x3, x4⟩ : Ord) = ⟨y0, y1, y2, y3, y4⟩
        · have HI : Hid (xs.take (k + 1) = ys.take (k + 1)) := hm.2 ⟨H.out, he⟩
          cases he
          have hq := fun W => neq_ord W x0 x1 x2 x3 x4 x0 x1 x2 x3 x4
          simp only [beq_self_eq_true, Bool.and_self, Bool.not_true] at hq
          clear hm H
          go_wp2_with fail
          go_quiet (fail)
          all_goals
            go_wp2_with fail
            go_roundw
            case rel => exact ⟨k + 1, by omega, by go_num, ⟨_, rfl⟩, HI⟩
            case measure => simp [intOf]; omega
        · have HI : Hid (xs ≠ ys) := fun h => he (by
            subst h
            exact HXK.out.symm.trans HYK.out)
          have heb : (!((x0 == y0) && (x1 == y1) && (x2 == y2) && (x3 == y3) && (x4 == y4))) = true := by
            rw [Bool.not_eq_true', Bool.eq_false_iff]
            intro h
            simp only [Bool.and_eq_true, beq_iff_eq] at h
            exact he (by simp [h])
          have hq := fun W => neq_ord W x0 x1 x2 x3 x4 y0 y1 y2 y3 y4
          rw [heb] at hq
          clear hm H heb he
          go_wp2_with fail
          go_quiet (fail)
          all_goals
            go_wp2_with fail
            go_ret
            exact ⟨ret_bool (by simpa using HI.out), _, World.drewN_drewN _ _ _⟩
      · have hkk : k = xs.length := by omega
        subst hkk
        have HI : Hid (xs = ys) := by
          have := H.out
          rwa [List.take_length, HL.out, List.take_length] at this
        clear H
        go_wp2_with fail
        go_ret
        exact ⟨ret_bool (by simpa using HI.out), _, rfl⟩
  · have hne : xs ≠ ys := fun h => hl (by rw [h])
    have hlb : ((xs.length : Int) != (ys.length : Int)) = true := by simp; omega
    have HI := Lib.hid hne
    clear hl hne
    go_wp2_with fail
    go_ret
    exact ⟨ret_bool (by simpa using HI.out), 0, rfl⟩

theorem elem_loc : Elem Tryz.prog 29 66 (.agg #[.int .i64 0, .int .i64 0, .int .i64 0]) 3 24 := ⟨Tryz.underlying29, by kernel_rfl, rfl, by decide⟩
theorem len_loc (x : Tri) : (triC x).length = 3 := rfl
theorem one_loc (x : Tri) : ∀ u ∈ triC x, u.oneCell' = true := by
  intro u hu
  simp [triC] at hu
  rcases hu with rfl | rfl | rfl <;> rfl
theorem neq_loc (W : World) (x0 : Int) (x1 : Int) (x2 : Int) (y0 : Int) (y1 : Int) (y2 : Int) : (binOp .neq 66 (.agg #[.int .i64 x0, .int .i64 x1, .int .i64 x2]) (.agg #[.int .i64 y0, .int .i64 y1, .int .i64 y2])).run Tryz.prog W = .ok (.bool (!((x0 == y0) && (x1 == y1) && (x2 == y2)))) W := by
  by_cases h0 : x0 = y0
  rotate_left
  · simp [go_sem, h0]
  subst h0
  by_cases h1 : x1 = y1
  rotate_left
  · simp [go_sem, h1]
  subst h1
  by_cases h2 : x2 = y2
  rotate_left
  · simp [go_sem, h2]
  subst h2
  simp [go_sem]
set_option maxHeartbeats 1000000 in
theorem rsame_loc (a b : Option Addr) (ca cb : Nat) (xs ys : List (Tri)) (w : World) (hbig : xs.length ≤ 9223372036854775807) (hbig2 : ys.length ≤ 9223372036854775807) (ha : At w a (xs.flatMap triC)) (hb : At w b (ys.flatMap triC)) :
    Calls Tryz.prog 26 #[.slice a xs.length ca, .slice b ys.length cb] w fun e w' => e = .returned (.bool (decide (xs = ys))) ∧ ∃ n, w' = w.drewN n := by
  have HA := Lib.hid ha
  have HB := Lib.hid hb
  clear ha hb
  go_enter Tryz.func26, Tryz.ntmps26
  by_cases hl : xs.length = ys.length
  · have hlb : ((xs.length : Int) != (ys.length : Int)) = false := by simp [hl]
    have HL := Lib.hid hl
    clear hl
    go_wp2_with fail
    go_loopw [13] (fun i wr => ∃ k : Nat, k ≤ xs.length ∧ i = .int .i64 k ∧ (∃ n, wr = w.drewN n) ∧ Hid (xs.take k = ys.take k)) (fun i _ => xs.length - (intOf i).toNat)
    case atStart => exact ⟨0, by omega, rfl, ⟨0, rfl⟩, by simp [Hid]⟩
    case round =>
      obtain ⟨k, hk, rfl, ⟨n, rfl⟩, H⟩ := hrel
      by_cases hlt : k < xs.length
      · have hlt2 : k < ys.length := by have := HL.out; omega
        obtain ⟨b1, off1, rfl, C1⟩ := rec_at len_loc (by decide) HA.out hlt
        obtain ⟨b2, off2, rfl, C2⟩ := rec_at len_loc (by decide) HB.out hlt2
        have hm := take_eq_succ xs ys k hlt hlt2
        generalize hxk : xs[k] = x at *
        generalize hyk : ys[k] = y at *
        have HXK := Lib.hid hxk
        have HYK := Lib.hid hyk
        clear hxk hyk
        obtain ⟨x0, x1, x2⟩ := x
        obtain ⟨y0, y1, y2⟩ := y
        have c0 := C1 0 _ rfl
        have c1 := C1 1 _ rfl
        have c2 := C1 2 _ rfl
        have d0 := C2 0 _ rfl
        have d1 := C2 1 _ rfl
        have d2 := C2 2 _ rfl
        clear C1 C2
        simp only [← Nat.add_assoc, Nat.add_zero] at c0 c1 c2 d0 d1 d2
        by_cases he : ((x0, x1, x2) : Tri) = (y0, y1, y2)
        · have HI : Hid (xs.take (k + 1) = ys.take (k + 1)) := hm.2 ⟨H.out, he⟩
          cases he
          have hq := fun W => neq_loc W x0 x1 x2 x0 x1 x2
          simp only [beq_self_eq_true, Bool.and_self, Bool.not_true] at hq
          clear hm H
          go_wp2_with fail
          go_quiet (fail)
          all_goals
            go_wp2_with fail
            go_roundw
            case rel => exact ⟨k + 1, by omega, by go_num, ⟨_, rfl⟩, HI⟩
            case measure => simp [intOf]; omega
        · have HI : Hid (xs ≠ ys) := fun h => he (by
            subst h
            exact HXK.out.symm.trans HYK.out)
          have heb : (!((x0 == y0) && (x1 == y1) && (x2 == y2))) = true := by
            rw [Bool.not_eq_true', Bool.eq_false_iff]
            intro h
            simp only [Bool.and_eq_true, beq_iff_eq] at h
            exact he (by simp [h])
          have hq := fun W => neq_loc W x0 x1 x2 y0 y1 y2
          rw [heb] at hq
          clear hm H heb he
          go_wp2_with fail
          go_quiet (fail)
          all_goals
            go_wp2_with fail
            go_ret
            exact ⟨ret_bool (by simpa using HI.out), _, World.drewN_drewN _ _ _⟩
      · have hkk : k = xs.length := by omega
        subst hkk
        have HI : Hid (xs = ys) := by
          have := H.out
          rwa [List.take_length, HL.out, List.take_length] at this
        clear H
        go_wp2_with fail
        go_ret
        exact ⟨ret_bool (by simpa using HI.out), _, rfl⟩
  · have hne : xs ≠ ys := fun h => hl (by rw [h])
    have hlb : ((xs.length : Int) != (ys.length : Int)) = true := by simp; omega
    have HI := Lib.hid hne
    clear hl hne
    go_wp2_with fail
    go_ret
    exact ⟨ret_bool (by simpa using HI.out), 0, rfl⟩

theorem elem_acc : Elem Tryz.prog 25 46 (.agg #[.int .i64 0, .slice none 0 0, .bool false, .int .i64 0]) 4 48 := ⟨Tryz.underlying25, by kernel_rfl, rfl, by decide⟩
theorem len_acc (x : Value × Acc) : (accC x).length = 4 := rfl
theorem one_acc (x : Value × Acc) (h : x.1.oneCell' = true) : ∀ u ∈ accC x, u.oneCell' = true := by
  intro u hu
  simp [accC] at hu
  rcases hu with rfl | rfl | rfl | rfl <;> first | rfl | exact h
theorem one_accs (vs : List (Value × Acc)) (h : ∀ x ∈ vs, x.1.oneCell' = true) : ∀ u ∈ vs.flatMap accC, u.oneCell' = true := by
  intro u hu
  obtain ⟨x, hx, hu⟩ := List.mem_flatMap.1 hu
  exact one_acc x (h x hx) u hu
theorem elem_int : Elem Tryz.prog 28 3 (.int .i64 0) 1 8 := ⟨Tryz.underlying28, by kernel_rfl, rfl, by decide⟩
theorem none_i64 {w : World} {xs : List Int} (h : At w none (i64s xs)) : xs = [] := by
  cases xs with
  | nil => rfl
  | cons x r => obtain ⟨b, off, h, _⟩ := h 0 _ rfl; cases h
set_option maxHeartbeats 1000000 in
theorem rsame_int (a b : Option Addr) (ca cb : Nat) (xs ys : List Int) (w : World) (hbig : xs.length ≤ 9223372036854775807) (hbig2 : ys.length ≤ 9223372036854775807) (ha : At w a (i64s xs)) (hb : At w b (i64s ys)) :
    Calls Tryz.prog 23 #[.slice a xs.length ca, .slice b ys.length cb] w fun e w' => e = .returned (.bool (decide (xs = ys))) ∧ ∃ n, w' = w.drewN n := by
  have HA := Lib.hid ha
  have HB := Lib.hid hb
  clear ha hb
  go_enter Tryz.func23, Tryz.ntmps23
  by_cases hl : xs.length = ys.length
  · have hlb : ((xs.length : Int) != (ys.length : Int)) = false := by simp [hl]
    have HL := Lib.hid hl
    clear hl
    go_wp2_with fail
    go_loopw [13] (fun i wr => ∃ k : Nat, k ≤ xs.length ∧ i = .int .i64 k ∧ (∃ n, wr = w.drewN n) ∧ Hid (xs.take k = ys.take k)) (fun i _ => xs.length - (intOf i).toNat)
    case atStart => exact ⟨0, by omega, rfl, ⟨0, rfl⟩, by simp [Hid]⟩
    case round =>
      obtain ⟨k, hk, rfl, ⟨n, rfl⟩, H⟩ := hrel
      by_cases hlt : k < xs.length
      · have hlt2 : k < ys.length := by have := HL.out; omega
        obtain ⟨b1, off1, rfl, hcell⟩ := HA.out k _ (i64s_get xs k hlt)
        obtain ⟨b2, off2, rfl, hcell2⟩ := HB.out k _ (i64s_get ys k hlt2)
        have hm := take_eq_succ xs ys k hlt hlt2
        by_cases he : xs[k] = ys[k]
        · have HI : Hid (xs.take (k + 1) = ys.take (k + 1)) := hm.2 ⟨H.out, he⟩
          have heb : (xs[k] != ys[k]) = false := by simpa using he
          clear hm H he
          generalize xs[k] = x at *
          generalize ys[k] = y at *
          go_wp2_with fail
          go_quiet (fail)
          all_goals
            go_wp2_with fail
            go_roundw
            case rel => exact ⟨k + 1, by omega, by go_num, ⟨_, rfl⟩, HI⟩
            case measure => simp [intOf]; omega
        · have HI : Hid (xs ≠ ys) := fun h => he (by subst h; rfl)
          have heb : (xs[k] != ys[k]) = true := by simpa using he
          clear hm H he
          generalize xs[k] = x at *
          generalize ys[k] = y at *
          go_wp2_with fail
          go_quiet (fail)
          all_goals
            go_wp2_with fail
            go_ret
            exact ⟨ret_bool (by simpa using HI.out), _, World.drewN_drewN _ _ _⟩
      · have hkk : k = xs.length := by omega
        subst hkk
        have HI : Hid (xs = ys) := by
          have := H.out
          rwa [List.take_length, HL.out, List.take_length] at this
        clear H
        go_wp2_with fail
        go_ret
        exact ⟨ret_bool (by simpa using HI.out), _, rfl⟩
  · have hne : xs ≠ ys := fun h => hl (by rw [h])
    have hlb : ((xs.length : Int) != (ys.length : Int)) = true := by simp; omega
    have HI := Lib.hid hne
    clear hl hne
    go_wp2_with fail
    go_ret
    exact ⟨ret_bool (by simpa using HI.out), 0, rfl⟩

end Go.Proofs.YtocjfjikkdpfdaaGreatDoor.LedW
