/- MulDiv's walk. -/
import Derived.Test.YtghcbkkabhlchaaDoorFixpDiv
namespace Go.Proofs.YtghcbkkabhlchaaDoor.FixpW
open Go.RowKit Go.Proofs.YtghcbkkabhlchaaDoor.Bas Go.Proofs.YtghcbkkabhlchaaDoor.FixpM

theorem mulDivF_over (a b c mode : Int) (h : fits a = false ∨ fits b = false ∨ fits c = false) : mulDivF a b c mode = (0, 4) := by
  unfold mulDivF
  rcases h with h | h | h <;> simp [h]
theorem mulDivF_arg (a b c mode : Int) (ha : fits a = true) (hb : fits b = true) (hc : fits c = true) (h : c = 0 ∨ mode < 0 ∨ 3 < mode) : mulDivF a b c mode = (0, 1) := by
  unfold mulDivF
  simp [ha, hb, hc, h]
theorem mulDivF_yes (a b c mode : Int) (ha : fits a = true) (hb : fits b = true) (hc : fits c = true) (h : ¬ (c = 0 ∨ mode < 0 ∨ 3 < mode)) : mulDivF a b c mode = okv (sgn (signOf a b c) (rndN (a.natAbs * b.natAbs) c.natAbs (signOf a b c) mode)) := by
  unfold mulDivF
  rw [← rnd_code]
  simp [ha, hb, hc, h]

/-- the quotient outgrows a word -/
theorem yes_high (A B C : Nat) (neg : Bool) (mode : Int) (hc : 0 < C) (h : C ≤ A * B / 18446744073709551616) : okv (sgn neg (rndN (A * B) C neg mode)) = (0, 4) := by
  rw [okv_sgn, if_neg]
  have h1 : C * 18446744073709551616 ≤ A * B := by
    have := Nat.div_mul_le_self (A * B) 18446744073709551616
    exact Nat.le_trans (Nat.mul_le_mul_right _ h) this
  have h2 : 18446744073709551616 ≤ A * B / C := by
    rw [Nat.le_div_iff_mul_le hc, Nat.mul_comm]; exact h1
  unfold rndN
  omega
theorem yes_up (P C : Nat) (neg : Bool) (mode : Int) (hr : 0 < P % C) (hg : grows neg mode = true) :
    okv (sgn neg (rndN P C neg mode)) = signedF (((P / C + 1) / 18446744073709551616 : Nat) : Int) (((P / C + 1) % 18446744073709551616 : Nat) : Int) neg := by
  rw [signedF_nat]
  have : rndN P C neg mode = P / C + 1 := by unfold rndN; simp [hr, hg]
  rw [this]
theorem yes_down (P C : Nat) (neg : Bool) (mode : Int) (h : ¬ (0 < P % C ∧ grows neg mode = true)) (hq : P / C < 18446744073709551616) :
    okv (sgn neg (rndN P C neg mode)) = signedF 0 ((P / C : Nat) : Int) neg := by
  have h1 : rndN P C neg mode = P / C := by
    unfold rndN
    rw [if_neg]; rfl
    simp only [Bool.and_eq_true, decide_eq_true_eq]; exact h
  rw [h1]
  have h2 := signedF_nat (P / C) neg
  rw [Nat.div_eq_of_lt hq, Nat.mod_eq_of_lt hq] at h2
  exact h2.symm

set_option maxRecDepth 100000 in
set_option maxHeartbeats 2000000 in
theorem muldiv_no (a b c mode : Int) (w : World) (ha : I64 a) (hb : I64 b) (hc : I64 c) (h : fits a = false ∨ fits b = false ∨ fits c = false) :
    Calls Tryd.prog 20 #[.int .i64 a, .int .i64 b, .int .i64 c, .int .i64 mode] w fun e w' =>
      e = .returned (.tuple #[.int .i64 (mulDivF a b c mode).1, .int .i64 (mulDivF a b c mode).2]) ∧ w = w' := by
  have hf := Lib.hid (mulDivF_over a b c mode h)
  have go : ∀ (fa fb fc : Bool), fits a = fa → fits b = fb → fits c = fc → (fa = false ∨ fb = false ∨ fc = false) → Calls Tryd.prog 20 #[.int .i64 a, .int .i64 b, .int .i64 c, .int .i64 mode] w fun e w' =>
      e = .returned (.tuple #[.int .i64 (mulDivF a b c mode).1, .int .i64 (mulDivF a b c mode).2]) ∧ w = w' := by
    clear h
    intro fa fb fc ea eb ec h
    have C1 := fun W => fits_calls a W ha
    have C2 := fun W => fits_calls b W hb
    have C3 := fun W => fits_calls c W hc
    rw [ea] at C1
    rw [eb] at C2
    rw [ec] at C3
    have D1 := Lib.hid C1
    have D2 := Lib.hid C2
    have D3 := Lib.hid C3
    clear C1 C2 C3 ea eb ec
    cases fa
    · clear h
      go_enter Tryd.func20, Tryd.ntmps20
      go_wp2_with (go_at_call 24; refine (D1.out _).mono ?_; rintro e w' ⟨rfl, rfl⟩)
      go_ret2
      exact ⟨by rw [hf.out]; exact ret_pair rfl rfl, rfl⟩
    · cases fb
      · clear h
        go_enter Tryd.func20, Tryd.ntmps20
        go_wp2_with (first | (go_at_call 24; refine (D1.out _).mono ?_; rintro e w' ⟨rfl, rfl⟩; clear D1) | (go_at_call 24; refine (D2.out _).mono ?_; rintro e w' ⟨rfl, rfl⟩))
        go_ret2
        exact ⟨by rw [hf.out]; exact ret_pair rfl rfl, rfl⟩
      · cases fc
        · clear h
          go_enter Tryd.func20, Tryd.ntmps20
          go_wp2_with (first | (go_at_call 24; refine (D1.out _).mono ?_; rintro e w' ⟨rfl, rfl⟩; clear D1) | (go_at_call 24; refine (D2.out _).mono ?_; rintro e w' ⟨rfl, rfl⟩; clear D2) | (go_at_call 24; refine (D3.out _).mono ?_; rintro e w' ⟨rfl, rfl⟩))
          go_ret2
          exact ⟨by rw [hf.out]; exact ret_pair rfl rfl, rfl⟩
        · simp at h
  exact go _ _ _ rfl rfl rfl h

set_option maxRecDepth 100000 in
set_option maxHeartbeats 2000000 in
theorem muldiv_arg (a b c mode : Int) (w : World) (ha : I64 a) (hb : I64 b) (hc : I64 c) (fa : fits a = true) (fb : fits b = true) (fc : fits c = true) (h : c = 0 ∨ mode < 0 ∨ 3 < mode) :
    Calls Tryd.prog 20 #[.int .i64 a, .int .i64 b, .int .i64 c, .int .i64 mode] w fun e w' =>
      e = .returned (.tuple #[.int .i64 (mulDivF a b c mode).1, .int .i64 (mulDivF a b c mode).2]) ∧ w = w' := by
  have hf := Lib.hid (mulDivF_arg a b c mode fa fb fc h)
  by_cases h0 : c = 0
  · subst h0
    clear h
    go_enter Tryd.func20, Tryd.ntmps20
    go_wp2_with (go_at_call 24; refine (fits_calls _ _ (by assumption)).mono ?_; rintro e w' ⟨rfl, rfl⟩)
    go_ret2
    exact ⟨by rw [hf.out]; exact ret_pair rfl rfl, rfl⟩
  · have hb0 : (c == 0) = false := by simpa using h0
    by_cases h1 : mode < 0
    · clear h
      go_enter Tryd.func20, Tryd.ntmps20
      go_wp2_with (go_at_call 24; refine (fits_calls _ _ (by assumption)).mono ?_; rintro e w' ⟨rfl, rfl⟩)
      go_ret2
      exact ⟨by rw [hf.out]; exact ret_pair rfl rfl, rfl⟩
    · have h2 : 3 < mode := by omega
      clear h
      go_enter Tryd.func20, Tryd.ntmps20
      go_wp2_with (go_at_call 24; refine (fits_calls _ _ (by assumption)).mono ?_; rintro e w' ⟨rfl, rfl⟩)
      go_ret2
      exact ⟨by rw [hf.out]; exact ret_pair rfl rfl, rfl⟩

set_option maxRecDepth 100000 in
set_option maxHeartbeats 4000000 in
theorem muldiv_yes (a b c mode : Int) (w : World) (ha : I64 a) (hb : I64 b) (hc : I64 c) (fa : fits a = true) (fb : fits b = true) (fc : fits c = true) (hc0 : c ≠ 0) (hm0 : 0 ≤ mode) (hm3 : mode ≤ 3) :
    Calls Tryd.prog 20 #[.int .i64 a, .int .i64 b, .int .i64 c, .int .i64 mode] w fun e w' =>
      e = .returned (.tuple #[.int .i64 (mulDivF a b c mode).1, .int .i64 (mulDivF a b c mode).2]) ∧ ∃ n, w.drewN n = w' := by
  have hf := mulDivF_yes a b c mode fa fb fc (by omega)
  have h1 := fits_i64 fa
  have h2 := fits_i64 fb
  have h3 := fits_i64 fc
  have hC : 0 < c.natAbs := by omega
  have hb0 : (c == 0) = false := by simpa using hc0
  have S1 := fun W => size_calls a W ha
  have S2 := fun W => size_calls b W hb
  have S3 := fun W => size_calls c W hc
  generalize hneg : signOf a b c = neg at hf
  have eneg : (!((!(decide (a < 0) == decide (b < 0))) == decide (c < 0))) = neg := by
    rw [← hneg]
    unfold signOf
    cases decide (a < 0) <;> cases decide (b < 0) <;> cases decide (c < 0) <;> rfl
  clear hneg hc0
  generalize a.natAbs = A at hf h1 S1
  generalize b.natAbs = B at hf h2 S2
  generalize c.natAbs = C at hf h3 S3 hC
  have M := Tryd.bits_Mul64 A B (by omega) (by omega)
  obtain ⟨P, hP⟩ : ∃ P, P = A * B := ⟨_, rfl⟩
  rw [← hP] at hf M
  obtain ⟨Ph, hPh⟩ : ∃ Ph, Ph = P / 18446744073709551616 := ⟨_, rfl⟩
  obtain ⟨Pl, hPl⟩ : ∃ Pl, Pl = P % 18446744073709551616 := ⟨_, rfl⟩
  have hPl2 : Pl < 18446744073709551616 := by omega
  rw [← hPh, ← hPl] at M
  have hPP : Ph * 18446744073709551616 + Pl = P := by omega
  have hs1 := Lib.hid S1
  have hs2 := Lib.hid S2
  have hs3 := Lib.hid S3
  have hM := Lib.hid M
  clear S1 S2 S3 M
  by_cases hov : C ≤ Ph
  · have hf2 : mulDivF a b c mode = (0, 4) := by rw [hf, hP]; exact yes_high A B C neg mode hC (by rw [← hP, ← hPh]; exact hov)
    have HF := Lib.hid hf2
    clear hf hf2 hP hPh hPl hPP
    go_enter Tryd.func20, Tryd.ntmps20
    go_wp2_with (first | (go_at_call 24; refine (fits_calls _ _ (by assumption)).mono ?_; rintro e w' ⟨rfl, rfl⟩) | (go_at_call 26; refine (hs1.out _).mono ?_; rintro e w' ⟨rfl, rfl⟩; clear hs1) | (go_at_call 26; refine (hs2.out _).mono ?_; rintro e w' ⟨rfl, rfl⟩; clear hs2) | (go_at_call 26; refine (hs3.out _).mono ?_; rintro e w' ⟨rfl, rfl⟩; clear hs3) | (go_at_call 25; refine (hM.out _).mono ?_; rintro e w' ⟨rfl, rfl⟩))
    go_ret2
    exact ⟨by rw [HF.out]; exact ret_pair rfl rfl, 0, rfl⟩
  · have hq : P / C < 18446744073709551616 := by
      rw [Nat.div_lt_iff_lt_mul hC]
      have : (Ph + 1) * 18446744073709551616 ≤ C * 18446744073709551616 := Nat.mul_le_mul_right _ (by omega)
      omega
    have D := fun W => div_calls Ph Pl C W (by omega) (by omega) hPl2
    rw [hPP] at D
    have hf' := hf
    obtain ⟨q, hqd⟩ : ∃ q, q = P / C := ⟨_, rfl⟩
    obtain ⟨r, hrd⟩ : ∃ r, r = P % C := ⟨_, rfl⟩
    rw [← hqd] at hq
    have hov' : ¬ (C : Int) ≤ (Ph : Int) := by omega
    have hup : 0 < r → grows neg mode = true → mulDivF a b c mode = signedF (((q + 1) / 18446744073709551616 : Nat) : Int) (((q + 1) % 18446744073709551616 : Nat) : Int) neg := fun x y => by
      rw [hf', hqd]; exact yes_up P C neg mode (by rw [← hrd]; exact x) y
    have hdown : ¬ (0 < r ∧ grows neg mode = true) → mulDivF a b c mode = signedF 0 (q : Int) neg := fun x => by
      rw [hf', hqd]; exact yes_down P C neg mode (by rw [← hrd]; exact x) (by rw [← hqd]; exact hq)
    have HU := Lib.hid hup
    have HDn := Lib.hid hdown
    rw [← hqd, ← hrd] at D
    have hD := Lib.hid D
    clear D hf hf' hP hPh hPl hPP hqd hrd hup hdown
    go_enter Tryd.func20, Tryd.ntmps20
    go_upto_region 10 with (first | (go_at_call 24; refine (fits_calls _ _ (by assumption)).mono ?_; rintro e w' ⟨rfl, rfl⟩) | (go_at_call 26; refine (hs1.out _).mono ?_; rintro e w' ⟨rfl, rfl⟩; clear hs1) | (go_at_call 26; refine (hs2.out _).mono ?_; rintro e w' ⟨rfl, rfl⟩; clear hs2) | (go_at_call 26; refine (hs3.out _).mono ?_; rintro e w' ⟨rfl, rfl⟩) | (go_at_call 25; refine (hM.out _).mono ?_; rintro e w' ⟨rfl, rfl⟩) | (go_at_call 27; refine (hD.out _).mono ?_; rintro e w' ⟨rfl, nd, rfl⟩))
    clear hs3 hM hD eneg
    go_cut [15] (fun v wc => v = .bool (grows neg mode) ∧ w'.drewN nd = wc)
    case first =>
      clear HU HDn
      have hm : mode = 0 ∨ mode = 1 ∨ mode = 2 ∨ mode = 3 := by omega
      rcases hm with rfl | rfl | rfl | rfl <;> cases neg
      all_goals
        go_wp2_with fail
        go_meet
        case rel => exact ⟨rfl, rfl⟩
    case rest =>
      obtain ⟨rfl, rfl⟩ := hcut
      generalize hgr : grows neg mode = g at HU HDn
      clear hgr
      have a1 := add64_one q hq
      generalize (q + 1) / 18446744073709551616 = s1 at HU a1
      generalize hs2 : (q + 1) % 18446744073709551616 = s2 at HU a1
      have hs2' : s2 < 18446744073709551616 := by omega
      clear hs2
      by_cases hr0 : 0 < r
      · cases g
        · have HF := Lib.hid (HDn.out (by simp))
          clear HU HDn
          go_wp2_with (go_at_call 29; refine (signed_calls _ _ _ _ (by omega) (by omega) (by omega)).mono ?_; rintro e w' ⟨rfl, rfl⟩)
          go_ret2
          exact ⟨by rw [HF.out]; exact ret_pair rfl rfl, nd, rfl⟩
        · have HF := Lib.hid (HU.out hr0 rfl)
          clear HU HDn
          go_wp2_with (go_at_call 29; refine (signed_calls _ _ _ _ (by omega) (by omega) (by omega)).mono ?_; rintro e w' ⟨rfl, rfl⟩)
          go_ret2
          exact ⟨by rw [HF.out]; exact ret_pair rfl rfl, nd, rfl⟩
      · have HF := Lib.hid (HDn.out (by simp [hr0]))
        clear HU HDn
        go_wp2_with (go_at_call 29; refine (signed_calls _ _ _ _ (by omega) (by omega) (by omega)).mono ?_; rintro e w' ⟨rfl, rfl⟩)
        go_ret2
        exact ⟨by rw [HF.out]; exact ret_pair rfl rfl, nd, rfl⟩

/-- MulDiv, of all that can be handed in -/
theorem muldiv_calls (a b c mode : Int) (w : World) (ha : I64 a) (hb : I64 b) (hc : I64 c) :
    Calls Tryd.prog 20 #[.int .i64 a, .int .i64 b, .int .i64 c, .int .i64 mode] w fun e w' =>
      e = .returned (.tuple #[.int .i64 (mulDivF a b c mode).1, .int .i64 (mulDivF a b c mode).2]) ∧ ∃ n, w.drewN n = w' := by
  by_cases h : fits a = false ∨ fits b = false ∨ fits c = false
  · exact (muldiv_no a b c mode w ha hb hc h).mono fun e w' ⟨he, hw⟩ => ⟨he, 0, hw⟩
  · have fa : fits a = true := by cases hx : fits a <;> simp_all
    have fb : fits b = true := by cases hx : fits b <;> simp_all
    have fc : fits c = true := by cases hx : fits c <;> simp_all
    by_cases h2 : c = 0 ∨ mode < 0 ∨ 3 < mode
    · exact (muldiv_arg a b c mode w ha hb hc fa fb fc h2).mono fun e w' ⟨he, hw⟩ => ⟨he, 0, hw⟩
    · exact muldiv_yes a b c mode w ha hb hc fa fb fc (by omega) (by omega) (by omega)
end Go.Proofs.YtghcbkkabhlchaaDoor.FixpW
