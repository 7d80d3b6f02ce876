/- Under and Instr, of the program and of the document. -/
import Derived.Test.YtocjfjikkdpfdaaGreatDoorRefName
set_option linter.unusedSimpArgs false
set_option linter.unusedVariables false
namespace Go.Proofs.YtocjfjikkdpfdaaGreatDoor.RefW
open Go.RowKit Go.Proofs.YtocjfjikkdpfdaaGreatDoor.Bas Go.Proofs.YtocjfjikkdpfdaaGreatDoor.FixpM Go.Proofs.YtocjfjikkdpfdaaGreatDoor.FixpW Go.Proofs.YtocjfjikkdpfdaaGreatDoor.FixpR

def underV (s : ByteArray) (c p v : Int) : Value := .agg #[.string s, .int .i64 c, .int .i64 p, .int .i64 v]
/-- can the underlying be, where there are so many currencies? -/
def underF (s : ByteArray) (c p v n : Int) : Bool := nameF s && (decide (0 ≤ c ∧ c < n) && (within p 1 1000000000000 && within v 0 50000))
theorem underF_iff (s : ByteArray) (c p v n : Int) : underF s c p v n = true ↔ nameF s = true ∧ (0 ≤ c ∧ c < n) ∧ (1 ≤ p ∧ p ≤ 1000000000000) ∧ 0 ≤ v ∧ v ≤ 50000 := by simp [underF, within]

set_option maxHeartbeats 1000000 in
theorem under_calls (s : ByteArray) (c p v n : Int) (w : World) (hs : s.size ≤ 9223372036854775807) (hn : -1000 ≤ n ∧ n ≤ 1000) :
    Calls Tryz.prog 61 #[underV s c p v, .int .i64 n] w fun e w' => e = .returned (.bool (underF s c p v n)) ∧ Below w.heap.size w w' := by
  unfold underV
  have hB : Below w.heap.size w (w.alloc (.cells #[.string s, .int .i64 c, .int .i64 p, .int .i64 v] 57)) := (Below.refl _ _).alloc (Nat.le_refl _) _
  have x0 := Box.new w 57 #[.string s, .int .i64 c, .int .i64 p, .int .i64 v]
  have C := fun W => name_calls s W hs
  have hU := underF_iff s c p v n
  generalize underF s c p v n = r at hU ⊢
  generalize nameF s = b at C hU
  have D := Lib.hid C
  have HU := Lib.hid hU
  clear C hU
  go_enter Tryz.func61, Tryz.ntmps61
  go_upto_region 1 with fail
  generalize w.alloc (.cells #[.string s, .int .i64 c, .int .i64 p, .int .i64 v] 57) = w0 at hB x0 ⊢
  have e0 := x0.cell 0
  cases b
  · go_wp2_with (go_at_call 89; refine (D.out _).mono ?_; rintro e w1 ⟨rfl, b1⟩)
    go_ret
    exact ⟨ret_bool (by rw [Bool.eq_iff_iff, HU.out]; simp), hB.trans (b1.mono hB.size)⟩
  · go_wp2_with (first | (go_at_call 89; refine (D.out _).mono ?_; rintro e w1 ⟨rfl, b1⟩; have x1 := x0.keep b1; have hB1 := hB.trans (b1.mono hB.size); clear e0 x0 hB b1; have e1 := x1.cell 1; have e2 := x1.cell 2; have e3 := x1.cell 3) | (go_at_call 88; refine (within_calls _ _ _ _).mono ?_; rintro e w' ⟨rfl, rfl⟩))
    all_goals
      go_ret
      exact ⟨ret_bool (by rw [Bool.eq_iff_iff, HU.out]; simp_all [within_iff]; try omega), hB1⟩

set_option maxHeartbeats 1000000 in
theorem runder_calls (s : ByteArray) (c p v n : Int) (w : World) (hs : s.size ≤ 9223372036854775807) :
    Calls Tryz.prog 51 #[underV s c p v, .int .i64 n] w fun e w' => e = .returned (.bool (underF s c p v n)) ∧ Below w.heap.size w w' := by
  unfold underV
  have hB : Below w.heap.size w (w.alloc (.cells #[.string s, .int .i64 c, .int .i64 p, .int .i64 v] 57)) := (Below.refl _ _).alloc (Nat.le_refl _) _
  have x0 := Box.new w 57 #[.string s, .int .i64 c, .int .i64 p, .int .i64 v]
  have C := fun W => rname_calls s W hs
  have hU := underF_iff s c p v n
  generalize underF s c p v n = r at hU ⊢
  generalize nameF s = b at C hU
  have D := Lib.hid C
  have HU := Lib.hid hU
  clear C hU
  go_enter Tryz.func51, Tryz.ntmps51
  go_upto_region 1 with fail
  generalize w.alloc (.cells #[.string s, .int .i64 c, .int .i64 p, .int .i64 v] 57) = w0 at hB x0 ⊢
  have e0 := x0.cell 0
  have e1 := x0.cell 1
  have e2 := x0.cell 2
  have e3 := x0.cell 3
  cases b
  · go_wp2_with (go_at_call 83; refine (D.out _).mono ?_; rintro e w1 ⟨rfl, rfl⟩)
    go_ret
    exact ⟨ret_bool (by rw [Bool.eq_iff_iff, HU.out]; simp), hB⟩
  · go_wp2_with (go_at_call 83; refine (D.out _).mono ?_; rintro e w1 ⟨rfl, rfl⟩)
    all_goals
      go_ret
      exact ⟨ret_bool (by rw [Bool.eq_iff_iff, HU.out]; simp_all; try omega), hB⟩

def instrV (k u m s x : Int) (c : Bool) (r : Int) : Value := .agg #[.int .i64 k, .int .i64 u, .int .i64 m, .int .i64 s, .int .i64 x, .bool c, .int .i64 r]
def instrOk (k u m s x : Int) (c : Bool) (r n : Int) : Prop :=
  (1 ≤ k ∧ k ≤ 3) ∧ (0 ≤ u ∧ u < n) ∧ (1 ≤ m ∧ m ≤ 1000000) ∧ (0 ≤ r ∧ r ≤ 100000000000000) ∧ (k = 1 → s = 0 ∧ x = 0 ∧ c = false) ∧ (k = 2 → s = 0 ∧ (1 ≤ x ∧ x ≤ 100000) ∧ c = false) ∧ (k = 3 → (1 ≤ s ∧ s ≤ 1000000000000) ∧ 1 ≤ x ∧ x ≤ 100000)
instance (k u m s x : Int) (c : Bool) (r n : Int) : Decidable (instrOk k u m s x c r n) := by unfold instrOk; exact inferInstance
/-- can the instrument be, where there are so many underlyings? -/
def instrF (k u m s x : Int) (c : Bool) (r n : Int) : Bool := decide (instrOk k u m s x c r n)
theorem instrF_iff (k u m s x : Int) (c : Bool) (r n : Int) : instrF k u m s x c r n = true ↔ instrOk k u m s x c r n := by simp [instrF]

set_option maxHeartbeats 4000000 in
set_option maxRecDepth 100000 in
theorem instr_calls (k u m s x : Int) (c : Bool) (r n : Int) (w : World) (hn : -1000 ≤ n ∧ n ≤ 1000) :
    Calls Tryz.prog 65 #[instrV k u m s x c r, .int .i64 n] w fun e w' => e = .returned (.bool (instrF k u m s x c r n)) ∧ Below w.heap.size w w' := by
  unfold instrV
  have hB : Below w.heap.size w (w.alloc (.cells #[.int .i64 k, .int .i64 u, .int .i64 m, .int .i64 s, .int .i64 x, .bool c, .int .i64 r] 60)) := (Below.refl _ _).alloc (Nat.le_refl _) _
  have x0 := Box.new w 60 #[.int .i64 k, .int .i64 u, .int .i64 m, .int .i64 s, .int .i64 x, .bool c, .int .i64 r]
  have hU := instrF_iff k u m s x c r n
  generalize instrF k u m s x c r n = z at hU ⊢
  have HU := Lib.hid hU
  clear hU
  go_enter Tryz.func65, Tryz.ntmps65
  go_upto_region 1 with fail
  generalize w.alloc (.cells #[.int .i64 k, .int .i64 u, .int .i64 m, .int .i64 s, .int .i64 x, .bool c, .int .i64 r] 60) = w0 at hB x0 ⊢
  have e0 := x0.cell 0
  have e1 := x0.cell 1
  have e2 := x0.cell 2
  have e3 := x0.cell 3
  have e4 := x0.cell 4
  have e5 := x0.cell 5
  have e6 := x0.cell 6
  cases c <;> go_wp2_with (go_at_call 88; refine (within_calls _ _ _ _).mono ?_; rintro e w' ⟨rfl, rfl⟩)
  all_goals
    go_ret
    exact ⟨ret_bool (by rw [Bool.eq_iff_iff, HU.out]; clear e0 e1 e2 e3 e4 e5 e6; simp_all [instrOk, within_iff, within_no]; try omega), hB⟩

set_option maxHeartbeats 4000000 in
set_option maxRecDepth 100000 in
theorem rinstr_calls (k u m s x : Int) (c : Bool) (r n : Int) (w : World) :
    Calls Tryz.prog 52 #[instrV k u m s x c r, .int .i64 n] w fun e w' => e = .returned (.bool (instrF k u m s x c r n)) ∧ Below w.heap.size w w' := by
  unfold instrV
  have hB : Below w.heap.size w (w.alloc (.cells #[.int .i64 k, .int .i64 u, .int .i64 m, .int .i64 s, .int .i64 x, .bool c, .int .i64 r] 60)) := (Below.refl _ _).alloc (Nat.le_refl _) _
  have x0 := Box.new w 60 #[.int .i64 k, .int .i64 u, .int .i64 m, .int .i64 s, .int .i64 x, .bool c, .int .i64 r]
  have hU := instrF_iff k u m s x c r n
  generalize instrF k u m s x c r n = z at hU ⊢
  have HU := Lib.hid hU
  clear hU
  go_enter Tryz.func52, Tryz.ntmps52
  go_upto_region 1 with fail
  generalize w.alloc (.cells #[.int .i64 k, .int .i64 u, .int .i64 m, .int .i64 s, .int .i64 x, .bool c, .int .i64 r] 60) = w0 at hB x0 ⊢
  have e0 := x0.cell 0
  have e1 := x0.cell 1
  have e2 := x0.cell 2
  have e3 := x0.cell 3
  have e4 := x0.cell 4
  have e5 := x0.cell 5
  have e6 := x0.cell 6
  cases c <;> go_wp2_with fail
  all_goals
    go_ret
    exact ⟨ret_bool (by rw [Bool.eq_iff_iff, HU.out]; clear e0 e1 e2 e3 e4 e5 e6; simp_all [instrOk]; try omega), hB⟩
end Go.Proofs.YtocjfjikkdpfdaaGreatDoor.RefW
