/- Fields of frames: their cells; two lists of them held against one another. -/
import Derived.Test.YtckcnenhnniogaaDoorBase
import Derived.Test.YtckcnenhnniogaaDoorRows
import Derived.Laws.StructEq
import Derived.WalkSpells
import Derived.WalkLawsBesides
set_option linter.unusedSimpArgs false
set_option linter.unusedVariables false
namespace Go.Proofs.YtckcnenhnniogaaDoor.FldW
open Go.RowKit Go.Proofs.YtckcnenhnniogaaDoor.Bas

abbrev Fld := Int × List UInt8
def fcell (f : Fld) : List Value := [.int .i64 f.1, .string ⟨f.2.toArray⟩]
def fcells (fs : List Fld) : List Value := fs.flatMap fcell
theorem fcells_len (fs : List Fld) : (fcells fs).length = fs.length * 2 := by
  unfold fcells
  induction fs with
  | nil => rfl
  | cons f fs ih => rw [List.flatMap_cons, List.length_append, ih]; simp [fcell]; omega
theorem fcells_get : ∀ (fs : List Fld) (k j : Nat) (hk : k < fs.length), j < 2 → (fcells fs)[k * 2 + j]? = (fcell (fs[k]'hk))[j]?
  | [], k, j, hk, _ => by simp at hk
  | f :: fs, 0, j, hk, hj => by
    unfold fcells
    rw [List.flatMap_cons, Nat.zero_mul, Nat.zero_add, List.getElem?_append_left (by simp [fcell]; omega)]
    rfl
  | f :: fs, k + 1, j, hk, hj => by
    have ih := fcells_get fs k j (by simpa using hk) hj
    unfold fcells at ih ⊢
    rw [List.flatMap_cons, List.getElem?_append_right (by simp [fcell]; omega)]
    rw [show (k + 1) * 2 + j - (fcell f).length = k * 2 + j by simp [fcell]; omega, ih]
    rfl
theorem fcells_append (a b : List Fld) : fcells (a ++ b) = fcells a ++ fcells b := by unfold fcells; rw [List.flatMap_append]
theorem fcells_one (f : Fld) : fcells [f] = fcell f := by unfold fcells; simp
theorem one_fcells (fs : List Fld) : ∀ u ∈ fcells fs, u.oneCell' = true := by
  intro u hu
  unfold fcells at hu
  obtain ⟨f, _, hu⟩ := List.mem_flatMap.1 hu
  simp [fcell] at hu
  rcases hu with rfl | rfl <;> rfl
/-- the two cells of a field -/
theorem fld_at {w : World} {a : Option Addr} {fs : List Fld} (h : At w a (fcells fs)) (k : Nat) (hk : k < fs.length) :
    ∃ b off, a = some ⟨b, off, none⟩ ∧ w.cell? ⟨b, off + k * 2, none⟩ = some (.int .i64 (fs[k]'hk).1) ∧ w.cell? ⟨b, off + k * 2 + 1, none⟩ = some (.string ⟨(fs[k]'hk).2.toArray⟩) := by
  obtain ⟨b, off, rfl, c0⟩ := h (k * 2 + 0) _ (fcells_get fs k 0 hk (by omega))
  obtain ⟨_, _, h1, c1⟩ := h (k * 2 + 1) _ (fcells_get fs k 1 hk (by omega))
  cases h1
  refine ⟨b, off, rfl, ?_, ?_⟩
  · simpa using c0
  · rw [← Nat.add_assoc] at c1; exact c1
theorem elemF : Elem Tryd.prog 26 39 (.agg #[.int .i64 0, .string ⟨#[]⟩]) 2 24 := ⟨Tryd.underlying26, by kernel_rfl, rfl, by decide⟩
theorem take_eq_succF (xs ys : List Fld) (k : Nat) (hx : k < xs.length) (hy : k < ys.length) : xs.take (k + 1) = ys.take (k + 1) ↔ xs.take k = ys.take k ∧ xs[k] = ys[k] := by
  rw [List.take_succ_eq_append_getElem hx, List.take_succ_eq_append_getElem hy]
  constructor
  · intro h
    have := List.append_inj h (by simp; omega)
    exact ⟨this.1, by simpa using this.2⟩
  · rintro ⟨h1, h2⟩
    rw [h1, h2]
theorem ret_boolF {a b : Bool} (h : a = b) : Ending.returned (.bool a) = .returned (.bool b) := by rw [h]

theorem neq_fld (W : World) (x1 y1 : Int) (x2 y2 : List UInt8) : (binOp .neq 39 (.agg #[.int .i64 x1, .string ⟨x2.toArray⟩]) (.agg #[.int .i64 y1, .string ⟨y2.toArray⟩])).run Tryd.prog W = .ok (.bool (!(x1 == y1 && x2 == y2))) W := by
  by_cases h1 : x1 = y1
  · subst h1
    by_cases h2 : x2 = y2
    · subst h2
      simp [go_sem]
    · simp [go_sem, h2]
  · simp [go_sem, h1]
set_option maxHeartbeats 1000000 in
theorem same_calls (a b : Option Addr) (ca cb : Nat) (xs ys : List Fld) (w : World) (hbig : xs.length ≤ 9223372036854775807) (hbig2 : ys.length ≤ 9223372036854775807) (ha : At w a (fcells xs)) (hb : At w b (fcells ys)) :
    Calls Tryd.prog 10 #[.slice a xs.length ca, .slice b ys.length cb] w fun e w' => e = .returned (.bool (decide (xs = ys))) ∧ ∃ n, w' = w.drewN n := by
  have HA := Lib.hid ha
  have HB := Lib.hid hb
  clear ha hb
  go_enter Tryd.func10, Tryd.ntmps10
  by_cases hl : xs.length = ys.length
  · have hlb : ((xs.length : Int) != (ys.length : Int)) = false := by simp [hl]
    have HL := Lib.hid hl
    clear hl
    go_wp2_with fail
    go_loopw [13] (fun i wr => ∃ k : Nat, k ≤ xs.length ∧ i = .int .i64 k ∧ (∃ n, wr = w.drewN n) ∧ Hid (xs.take k = ys.take k)) (fun i _ => xs.length - (intOf i).toNat)
    case atStart => exact ⟨0, by omega, rfl, ⟨0, rfl⟩, by simp [Hid]⟩
    case round =>
      obtain ⟨k, hk, rfl, ⟨n, rfl⟩, H⟩ := hrel
      by_cases hlt : k < xs.length
      · have hlt2 : k < ys.length := by have := HL.out; omega
        obtain ⟨b1, off1, rfl, c0, c1⟩ := fld_at HA.out k hlt
        obtain ⟨b2, off2, rfl, d0, d1⟩ := fld_at HB.out k hlt2
        have hm := take_eq_succF xs ys k hlt hlt2
        generalize hxk : xs[k] = x at *
        generalize hyk : ys[k] = y at *
        have HXK := Lib.hid hxk
        have HYK := Lib.hid hyk
        clear hxk hyk
        obtain ⟨x1, x2⟩ := x
        obtain ⟨y1, y2⟩ := y
        simp only at c0 c1 d0 d1
        by_cases he : x1 = y1 ∧ x2 = y2
        · obtain ⟨rfl, rfl⟩ := he
          have HI : Hid (xs.take (k + 1) = ys.take (k + 1)) := hm.2 ⟨H.out, rfl⟩
          clear hm H
          go_wp2_with fail
          go_quiet (fail)
          all_goals
            go_wp2_with fail
            go_roundw
            case rel => exact ⟨k + 1, by omega, by go_num, ⟨_, rfl⟩, HI⟩
            case measure => simp [intOf]; omega
        · have HI : Hid (xs ≠ ys) := fun h => he (by
            subst h
            have := HXK.out.symm.trans HYK.out
            exact ⟨congrArg Prod.fst this, congrArg Prod.snd this⟩)
          have heb : (!(x1 == y1 && x2 == y2)) = true := by
            simp
            exact Classical.or_iff_not_imp_left.2 (fun h1 h2 => he ⟨Classical.not_not.1 h1, h2⟩)
          have hq := fun W => neq_fld W x1 y1 x2 y2
          rw [heb] at hq
          clear hm H heb he
          go_wp2_with fail
          go_quiet (fail)
          all_goals
            go_wp2_with fail
            go_ret
            exact ⟨ret_boolF (by simpa using HI.out), _, World.drewN_drewN _ _ _⟩
      · have hkk : k = xs.length := by omega
        subst hkk
        have HI : Hid (xs = ys) := by
          have := H.out
          rwa [List.take_length, HL.out, List.take_length] at this
        clear H
        go_wp2_with fail
        go_ret
        exact ⟨ret_boolF (by simpa using HI.out), _, rfl⟩
  · have hne : xs ≠ ys := fun h => hl (by rw [h])
    have hlb : ((xs.length : Int) != (ys.length : Int)) = true := by simp; omega
    have HI := Lib.hid hne
    clear hl hne
    go_wp2_with fail
    go_ret
    exact ⟨ret_boolF (by simpa using HI.out), 0, rfl⟩
end Go.Proofs.YtckcnenhnniogaaDoor.FldW
