/- The walks of layer 9: within, Cur, Base, Worth. -/
import Derived.Test.YtghcbkkabhlchaaDoorFixpDocDiv
import Derived.Test.YtghcbkkabhlchaaDoorFixpLaws
namespace Go.Proofs.YtghcbkkabhlchaaDoor.RefW
open Go.RowKit Go.Proofs.YtghcbkkabhlchaaDoor.Bas Go.Proofs.YtghcbkkabhlchaaDoor.FixpM Go.Proofs.YtghcbkkabhlchaaDoor.FixpW Go.Proofs.YtghcbkkabhlchaaDoor.FixpR

def within (x lo hi : Int) : Bool := decide (lo ≤ x ∧ x ≤ hi)
theorem within_iff (x lo hi : Int) : within x lo hi = true ↔ lo ≤ x ∧ x ≤ hi := by simp [within]
theorem within_no (x lo hi : Int) : within x lo hi = false ↔ x < lo ∨ hi < x := by simp [within]; omega
theorem within_calls (x lo hi : Int) (w : World) :
    Calls Tryd.prog 22 #[.int .i64 x, .int .i64 lo, .int .i64 hi] w fun e w' => e = .returned (.bool (within x lo hi)) ∧ w = w' := by
  go_enter Tryd.func22, Tryd.ntmps22
  go_wp2_with fail
  all_goals
    go_ret
    exact ⟨ret_bool (by simp only [within]; rw [Bool.eq_iff_iff]; simp; omega), rfl⟩

def curV (r h : Int) : Value := .agg #[.int .i64 r, .int .i64 h]
/-- can the currency be? -/
def curF (r h n : Int) : Bool := (decide (n ≠ 0) || decide (r = 1000000)) && (within r 1 1000000000000 && within h 0 10000)
theorem curF_iff (r h n : Int) : curF r h n = true ↔ (n ≠ 0 ∨ r = 1000000) ∧ (1 ≤ r ∧ r ≤ 1000000000000) ∧ 0 ≤ h ∧ h ≤ 10000 := by simp [curF, within]
theorem rcur_calls (r h n : Int) (w : World) :
    Calls Tryd.prog 13 #[curV r h, .int .i64 n] w fun e w' => e = .returned (.bool (curF r h n)) ∧ Below w.heap.size w w' := by
  unfold curV
  have hB : Below w.heap.size w (w.alloc (.cells #[.int .i64 r, .int .i64 h] 23)) := (Below.refl _ _).alloc (Nat.le_refl _) _
  go_enter Tryd.func13, Tryd.ntmps13
  go_wp2_with fail
  all_goals
    go_ret
    exact ⟨ret_bool (by rw [Bool.eq_iff_iff, curF_iff]; simp; try omega), hB⟩
theorem cur_calls (r h n : Int) (w : World) :
    Calls Tryd.prog 12 #[curV r h, .int .i64 n] w fun e w' => e = .returned (.bool (curF r h n)) ∧ Below w.heap.size w w' := by
  unfold curV
  have hB : Below w.heap.size w (w.alloc (.cells #[.int .i64 r, .int .i64 h] 23)) := (Below.refl _ _).alloc (Nat.le_refl _) _
  go_enter Tryd.func12, Tryd.ntmps12
  go_wp2_with (go_at_call 22; refine (within_calls _ _ _ _).mono ?_; rintro e w' ⟨rfl, rfl⟩)
  all_goals
    go_ret
    exact ⟨ret_bool (by rw [Bool.eq_iff_iff, curF_iff]; simp_all [within_iff]; try omega), hB⟩

/-- an amount in the base currency, and the error -/
def baseF (r h a m : Int) : Int × Int := if curF r h 1 then mulDivF a r 1000000 m else (0, 30)
def worthF (r h a : Int) : Int × Int :=
  if (baseF r h a 0).2 = 0 then mulDivF (baseF r h a 0).1 (if (baseF r h a 0).1 < 0 then 10000 + h else 10000 - h) 10000 0 else (0, (baseF r h a 0).2)

set_option maxHeartbeats 400000 in
theorem base_calls (r h a m : Int) (w : World) (ha : I64 a) (hr : I64 r) :
    Calls Tryd.prog 8 #[curV r h, .int .i64 a, .int .i64 m] w fun e w' => e = .returned (.tuple #[.int .i64 (baseF r h a m).1, .int .i64 (baseF r h a m).2]) ∧ Below w.heap.size w w' := by
  have hB : Below w.heap.size w (w.alloc (.cells #[.int .i64 r, .int .i64 h] 23)) := (Below.refl _ _).alloc (Nat.le_refl _) _
  have x0 := Box.new w 23 #[.int .i64 r, .int .i64 h]
  have C := fun W => cur_calls r h 1 W
  have M := fun W => muldiv_calls a r 1000000 m W ha hr (by unfold I64; omega)
  have E1 := Lib.hid (show curF r h 1 = true → baseF r h a m = mulDivF a r 1000000 m from fun h => by unfold baseF; rw [if_pos h])
  have E2 := Lib.hid (show curF r h 1 = false → baseF r h a m = (0, 30) from fun h => by unfold baseF; rw [if_neg (by simp [h])])
  generalize mulDivF a r 1000000 m = q at M E1
  obtain ⟨q1, q2⟩ := q
  unfold curV at *
  generalize curF r h 1 = b at C E1 E2
  have D := Lib.hid C
  have K := Lib.hid M
  clear C M
  go_enter Tryd.func8, Tryd.ntmps8
  go_upto_region 1 with fail
  generalize w.alloc (.cells #[.int .i64 r, .int .i64 h] 23) = w0 at hB x0 ⊢
  have e0 := x0.cell 0
  have e1 := x0.cell 1
  cases b
  · have E := Lib.hid (E2.out rfl)
    go_wp2_with (go_at_call 12; refine (D.out _).mono ?_; rintro e w1 ⟨rfl, b1⟩)
    go_ret2
    exact ⟨by rw [E.out]; exact ret_pair rfl rfl, hB.trans (b1.mono hB.size)⟩
  · have E := Lib.hid (E1.out rfl)
    go_wp2_with (first | (go_at_call 12; refine (D.out _).mono ?_; rintro e w1 ⟨rfl, b1⟩; have x1 := x0.keep b1; clear e0 e1; have e0 := x1.cell 0) | (go_at_call 20; refine (K.out _).mono ?_; rintro e w2 ⟨rfl, n2, rfl⟩))
    go_ret2
    exact ⟨by rw [E.out]; exact ret_pair rfl rfl, below_drewN (hB.trans (b1.mono hB.size)) n2⟩

set_option maxHeartbeats 400000 in
theorem rbase_calls (r h a m : Int) (w : World) (ha : I64 a) (hr : I64 r) :
    Calls Tryd.prog 9 #[curV r h, .int .i64 a, .int .i64 m] w fun e w' => e = .returned (.tuple #[.int .i64 (baseF r h a m).1, .int .i64 (baseF r h a m).2]) ∧ Below w.heap.size w w' := by
  have hB : Below w.heap.size w (w.alloc (.cells #[.int .i64 r, .int .i64 h] 23)) := (Below.refl _ _).alloc (Nat.le_refl _) _
  have x0 := Box.new w 23 #[.int .i64 r, .int .i64 h]
  have C := fun W => rcur_calls r h 1 W
  have M := fun W => rmuldiv_calls a r 1000000 m W ha hr (by unfold I64; omega)
  have E1 := Lib.hid (show curF r h 1 = true → baseF r h a m = mulDivF a r 1000000 m from fun h => by unfold baseF; rw [if_pos h])
  have E2 := Lib.hid (show curF r h 1 = false → baseF r h a m = (0, 30) from fun h => by unfold baseF; rw [if_neg (by simp [h])])
  generalize mulDivF a r 1000000 m = q at M E1
  obtain ⟨q1, q2⟩ := q
  unfold curV at *
  generalize curF r h 1 = b at C E1 E2
  have D := Lib.hid C
  have K := Lib.hid M
  clear C M
  go_enter Tryd.func9, Tryd.ntmps9
  go_upto_region 1 with fail
  generalize w.alloc (.cells #[.int .i64 r, .int .i64 h] 23) = w0 at hB x0 ⊢
  have e0 := x0.cell 0
  have e1 := x0.cell 1
  cases b
  · have E := Lib.hid (E2.out rfl)
    go_wp2_with (go_at_call 13; refine (D.out _).mono ?_; rintro e w1 ⟨rfl, b1⟩)
    go_ret2
    exact ⟨by rw [E.out]; exact ret_pair rfl rfl, hB.trans (b1.mono hB.size)⟩
  · have E := Lib.hid (E1.out rfl)
    go_wp2_with (first | (go_at_call 13; refine (D.out _).mono ?_; rintro e w1 ⟨rfl, b1⟩; have x1 := x0.keep b1; clear e0 e1; have e0 := x1.cell 0; have hB1 := hB.trans (b1.mono hB.size)) | (go_at_call 21; refine (K.out _).mono ?_; rintro e w2 ⟨rfl, b2⟩))
    go_ret2
    exact ⟨by rw [E.out]; exact ret_pair rfl rfl, hB1.trans (b2.mono hB1.size)⟩

theorem base_ok {r h a m : Int} (he : (baseF r h a m).2 = 0) : fits (baseF r h a m).1 = true ∧ 0 ≤ h ∧ h ≤ 10000 ∧ -4611686018427387904 ≤ (baseF r h a m).1 ∧ (baseF r h a m).1 ≤ 4611686018427387904 := by
  unfold baseF at *
  by_cases hc : curF r h 1 = true
  · rw [if_pos hc] at he ⊢
    have hh := (curF_iff r h 1).1 hc
    have hf : fits (mulDivF a r 1000000 m).1 = true := by
      rcases two_mulDivF a r 1000000 m with h1 | h1 | h1
      · rw [h1] at he; simp at he
      · rw [h1] at he; simp at he
      · exact h1.2
    have := (fits_iff _).1 hf
    exact ⟨hf, hh.2.2.1, hh.2.2.2, this.1, this.2⟩
  · rw [if_neg hc] at he; simp at he

set_option maxHeartbeats 400000 in
theorem worth_calls (r h a : Int) (w : World) (ha : I64 a) (hr : I64 r) :
    Calls Tryd.prog 10 #[curV r h, .int .i64 a] w fun e w' => e = .returned (.tuple #[.int .i64 (worthF r h a).1, .int .i64 (worthF r h a).2]) ∧ Below w.heap.size w w' := by
  have hB : Below w.heap.size w (w.alloc (.cells #[.int .i64 r, .int .i64 h] 23)) := (Below.refl _ _).alloc (Nat.le_refl _) _
  have x0 := Box.new w 23 #[.int .i64 r, .int .i64 h]
  have C := fun W => base_calls r h a 0 W ha hr
  have hok := @base_ok r h a 0
  obtain ⟨z, E⟩ : ∃ z, z = worthF r h a := ⟨_, rfl⟩
  rw [← E]
  unfold worthF at E
  generalize baseF r h a 0 = q at C hok E
  obtain ⟨x, er⟩ := q
  obtain ⟨z1, z2⟩ := z
  simp only at E hok
  unfold curV at *
  have D := Lib.hid C
  clear C
  go_enter Tryd.func10, Tryd.ntmps10
  go_upto_region 1 with fail
  generalize w.alloc (.cells #[.int .i64 r, .int .i64 h] 23) = w0 at hB x0 ⊢
  have e0 := x0.cell 0
  have e1 := x0.cell 1
  by_cases he : er = 0
  · subst he
    obtain ⟨hf, h1, h2, hxl, hxh⟩ := hok rfl
    rw [if_pos rfl] at E
    by_cases hx : x < 0
    · rw [if_pos hx] at E
      have M := fun W => muldiv_calls x (10000 + h) 10000 0 W (i64_of_fits hf) (by unfold I64; omega) (by unfold I64; omega)
      rw [← E] at M
      have K := Lib.hid M
      clear M E hf
      go_wp2_with (first | (go_at_call 8; refine (D.out _).mono ?_; rintro e w1 ⟨rfl, b1⟩; have x1 := x0.keep b1; clear e0 e1; have e1 := x1.cell 1; have hB1 := hB.trans (b1.mono hB.size)) | (go_at_call 20; refine (K.out _).mono ?_; rintro e w2 ⟨rfl, n2, rfl⟩))
      go_ret2
      exact ⟨ret_pair rfl rfl, below_drewN hB1 n2⟩
    · rw [if_neg hx] at E
      have M := fun W => muldiv_calls x (10000 - h) 10000 0 W (i64_of_fits hf) (by unfold I64; omega) (by unfold I64; omega)
      rw [← E] at M
      have K := Lib.hid M
      clear M E hf
      go_wp2_with (first | (go_at_call 8; refine (D.out _).mono ?_; rintro e w1 ⟨rfl, b1⟩; have x1 := x0.keep b1; clear e0 e1; have e1 := x1.cell 1; have hB1 := hB.trans (b1.mono hB.size)) | (go_at_call 20; refine (K.out _).mono ?_; rintro e w2 ⟨rfl, n2, rfl⟩))
      go_ret2
      exact ⟨ret_pair rfl rfl, below_drewN hB1 n2⟩
  · rw [if_neg he] at E
    simp only [Prod.mk.injEq] at E
    obtain ⟨rfl, rfl⟩ := E
    have hb : (z2 != 0) = true := by simpa using he
    clear hok he
    go_wp2_with (go_at_call 8; refine (D.out _).mono ?_; rintro e w1 ⟨rfl, b1⟩)
    go_ret2
    exact ⟨ret_pair rfl rfl, hB.trans (b1.mono hB.size)⟩

set_option maxHeartbeats 400000 in
theorem rworth_calls (r h a : Int) (w : World) (ha : I64 a) (hr : I64 r) :
    Calls Tryd.prog 11 #[curV r h, .int .i64 a] w fun e w' => e = .returned (.tuple #[.int .i64 (worthF r h a).1, .int .i64 (worthF r h a).2]) ∧ Below w.heap.size w w' := by
  have hB : Below w.heap.size w (w.alloc (.cells #[.int .i64 r, .int .i64 h] 23)) := (Below.refl _ _).alloc (Nat.le_refl _) _
  have x0 := Box.new w 23 #[.int .i64 r, .int .i64 h]
  have C := fun W => rbase_calls r h a 0 W ha hr
  have hok := @base_ok r h a 0
  obtain ⟨z, E⟩ : ∃ z, z = worthF r h a := ⟨_, rfl⟩
  rw [← E]
  unfold worthF at E
  generalize baseF r h a 0 = q at C hok E
  obtain ⟨x, er⟩ := q
  obtain ⟨z1, z2⟩ := z
  simp only at E hok
  unfold curV at *
  have D := Lib.hid C
  clear C
  go_enter Tryd.func11, Tryd.ntmps11
  go_upto_region 1 with fail
  generalize w.alloc (.cells #[.int .i64 r, .int .i64 h] 23) = w0 at hB x0 ⊢
  have e0 := x0.cell 0
  have e1 := x0.cell 1
  by_cases he : er = 0
  · subst he
    obtain ⟨hf, h1, h2, hxl, hxh⟩ := hok rfl
    rw [if_pos rfl] at E
    by_cases hx : x < 0
    · rw [if_pos hx] at E
      have M := fun W => rmuldiv_calls x (10000 + h) 10000 0 W (i64_of_fits hf) (by unfold I64; omega) (by unfold I64; omega)
      rw [← E] at M
      have K := Lib.hid M
      clear M E hf
      go_wp2_with (first | (go_at_call 9; refine (D.out _).mono ?_; rintro e w1 ⟨rfl, b1⟩; have x1 := x0.keep b1; clear e0 e1; have e1 := x1.cell 1; have hB1 := hB.trans (b1.mono hB.size)) | (go_at_call 21; refine (K.out _).mono ?_; rintro e w2 ⟨rfl, b2⟩))
      go_ret2
      exact ⟨ret_pair rfl rfl, hB1.trans (b2.mono hB1.size)⟩
    · rw [if_neg hx] at E
      have M := fun W => rmuldiv_calls x (10000 - h) 10000 0 W (i64_of_fits hf) (by unfold I64; omega) (by unfold I64; omega)
      rw [← E] at M
      have K := Lib.hid M
      clear M E hf
      go_wp2_with (first | (go_at_call 9; refine (D.out _).mono ?_; rintro e w1 ⟨rfl, b1⟩; have x1 := x0.keep b1; clear e0 e1; have e1 := x1.cell 1; have hB1 := hB.trans (b1.mono hB.size)) | (go_at_call 21; refine (K.out _).mono ?_; rintro e w2 ⟨rfl, b2⟩))
      go_ret2
      exact ⟨ret_pair rfl rfl, hB1.trans (b2.mono hB1.size)⟩
  · rw [if_neg he] at E
    simp only [Prod.mk.injEq] at E
    obtain ⟨rfl, rfl⟩ := E
    have hb : (z2 != 0) = true := by simpa using he
    clear hok he
    go_wp2_with (go_at_call 9; refine (D.out _).mono ?_; rintro e w1 ⟨rfl, b1⟩)
    go_ret2
    exact ⟨ret_pair rfl rfl, hB.trans (b1.mono hB.size)⟩
end Go.Proofs.YtghcbkkabhlchaaDoor.RefW
