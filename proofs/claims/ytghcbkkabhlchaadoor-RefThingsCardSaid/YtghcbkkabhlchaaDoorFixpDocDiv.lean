/- The document's own MulDiv is FixpM's. -/
import Derived.Test.YtghcbkkabhlchaaDoorFixpDoc
namespace Go.Proofs.YtghcbkkabhlchaaDoor.FixpR
open Go.RowKit Go.Proofs.YtghcbkkabhlchaaDoor.Bas Go.Proofs.YtghcbkkabhlchaaDoor.FixpM Go.Proofs.YtghcbkkabhlchaaDoor.FixpW

set_option maxRecDepth 100000 in
set_option maxHeartbeats 2000000 in
theorem rmuldiv_no (a b c mode : Int) (w : World) (h : fits a = false ∨ fits b = false ∨ fits c = false) :
    Calls Tryd.prog 21 #[.int .i64 a, .int .i64 b, .int .i64 c, .int .i64 mode] w fun e w' =>
      e = .returned (.tuple #[.int .i64 (mulDivF a b c mode).1, .int .i64 (mulDivF a b c mode).2]) ∧ w = w' := by
  have hf := Lib.hid (mulDivF_over a b c mode h)
  have go : ∀ (fa fb fc : Bool), fits a = fa → fits b = fb → fits c = fc → (fa = false ∨ fb = false ∨ fc = false) → Calls Tryd.prog 21 #[.int .i64 a, .int .i64 b, .int .i64 c, .int .i64 mode] w fun e w' =>
      e = .returned (.tuple #[.int .i64 (mulDivF a b c mode).1, .int .i64 (mulDivF a b c mode).2]) ∧ w = w' := by
    clear h
    intro fa fb fc ea eb ec h
    have C1 := fun W => rfits_calls a W
    have C2 := fun W => rfits_calls b W
    have C3 := fun W => rfits_calls c W
    rw [ea] at C1
    rw [eb] at C2
    rw [ec] at C3
    have D1 := Lib.hid C1
    have D2 := Lib.hid C2
    have D3 := Lib.hid C3
    clear C1 C2 C3 ea eb ec
    cases fa
    · clear h
      go_enter Tryd.func21, Tryd.ntmps21
      go_wp2_with (go_at_call 30; refine (D1.out _).mono ?_; rintro e w' ⟨rfl, rfl⟩)
      go_ret2
      exact ⟨by rw [hf.out]; exact ret_pair rfl rfl, rfl⟩
    · cases fb
      · clear h
        go_enter Tryd.func21, Tryd.ntmps21
        go_wp2_with (first | (go_at_call 30; refine (D1.out _).mono ?_; rintro e w' ⟨rfl, rfl⟩; clear D1) | (go_at_call 30; refine (D2.out _).mono ?_; rintro e w' ⟨rfl, rfl⟩))
        go_ret2
        exact ⟨by rw [hf.out]; exact ret_pair rfl rfl, rfl⟩
      · cases fc
        · clear h
          go_enter Tryd.func21, Tryd.ntmps21
          go_wp2_with (first | (go_at_call 30; refine (D1.out _).mono ?_; rintro e w' ⟨rfl, rfl⟩; clear D1) | (go_at_call 30; refine (D2.out _).mono ?_; rintro e w' ⟨rfl, rfl⟩; clear D2) | (go_at_call 30; refine (D3.out _).mono ?_; rintro e w' ⟨rfl, rfl⟩))
          go_ret2
          exact ⟨by rw [hf.out]; exact ret_pair rfl rfl, rfl⟩
        · simp at h
  exact go _ _ _ rfl rfl rfl h

set_option maxRecDepth 100000 in
set_option maxHeartbeats 2000000 in
theorem rmuldiv_arg (a b c mode : Int) (w : World) (fa : fits a = true) (fb : fits b = true) (fc : fits c = true) (h : c = 0 ∨ mode < 0 ∨ 3 < mode) :
    Calls Tryd.prog 21 #[.int .i64 a, .int .i64 b, .int .i64 c, .int .i64 mode] w fun e w' =>
      e = .returned (.tuple #[.int .i64 (mulDivF a b c mode).1, .int .i64 (mulDivF a b c mode).2]) ∧ w = w' := by
  have hf := Lib.hid (mulDivF_arg a b c mode fa fb fc h)
  by_cases h0 : c = 0
  · subst h0
    clear h
    go_enter Tryd.func21, Tryd.ntmps21
    go_wp2_with (go_at_call 30; refine (rfits_calls _ _).mono ?_; rintro e w' ⟨rfl, rfl⟩)
    go_ret2
    exact ⟨by rw [hf.out]; exact ret_pair rfl rfl, rfl⟩
  · have hb0 : (c == 0) = false := by simpa using h0
    by_cases h1 : mode < 0
    · clear h
      go_enter Tryd.func21, Tryd.ntmps21
      go_wp2_with (go_at_call 30; refine (rfits_calls _ _).mono ?_; rintro e w' ⟨rfl, rfl⟩)
      go_ret2
      exact ⟨by rw [hf.out]; exact ret_pair rfl rfl, rfl⟩
    · have h2 : 3 < mode := by omega
      clear h
      go_enter Tryd.func21, Tryd.ntmps21
      go_wp2_with (go_at_call 30; refine (rfits_calls _ _).mono ?_; rintro e w' ⟨rfl, rfl⟩)
      go_ret2
      exact ⟨by rw [hf.out]; exact ret_pair rfl rfl, rfl⟩

theorem wide_one (W : Nat) : (loN W + 1) % 18446744073709551616 = loN (W + 1) ∧ (loN (W + 1) = 0 → hiN W + 1 = hiN (W + 1)) ∧ (loN (W + 1) ≠ 0 → hiN W = hiN (W + 1)) := by
  unfold hiN loN; omega

set_option maxRecDepth 100000 in
set_option maxHeartbeats 4000000 in
theorem rmuldiv_yes (a b c mode : Int) (w : World) (ha : I64 a) (hb : I64 b) (hc : I64 c) (fa : fits a = true) (fb : fits b = true) (fc : fits c = true) (hc0 : c ≠ 0) (hm0 : 0 ≤ mode) (hm3 : mode ≤ 3) :
    Calls Tryd.prog 21 #[.int .i64 a, .int .i64 b, .int .i64 c, .int .i64 mode] w fun e w' =>
      e = .returned (.tuple #[.int .i64 (mulDivF a b c mode).1, .int .i64 (mulDivF a b c mode).2]) ∧ Below w.heap.size w w' := by
  have hf := mulDivF_yes a b c mode fa fb fc (by omega)
  have h1 := fits_i64 fa
  have h2 := fits_i64 fb
  have h3 := fits_i64 fc
  have hC : 0 < c.natAbs := by omega
  have hb0 : (c == 0) = false := by simpa using hc0
  have S1 := Lib.hid (fun W => rabs_calls a W ha)
  have S2 := Lib.hid (fun W => rabs_calls b W hb)
  have S3 := Lib.hid (fun W => rabs_calls c W hc)
  generalize hneg : signOf a b c = neg at hf
  have eneg : (!((!(decide (a < 0) == decide (b < 0))) == decide (c < 0))) = neg := by
    rw [← hneg]
    unfold signOf
    cases decide (a < 0) <;> cases decide (b < 0) <;> cases decide (c < 0) <;> rfl
  clear hneg hc0
  generalize a.natAbs = A at hf h1 S1
  generalize b.natAbs = B at hf h2 S2
  generalize c.natAbs = C at hf h3 S3 hC
  have hPlt : A * B ≤ 21267647932558653966460912964485513216 := prod_lt _ _ h1 h2
  have T := fun W => times_calls A B W (by omega) (by omega)
  obtain ⟨P, hP⟩ : ∃ P, P = A * B := ⟨_, rfl⟩
  rw [← hP] at hf T hPlt
  have O := fun W => over_calls P C W (by omega) hC (by omega)
  have hQ : P / C ≤ P := Nat.div_le_self _ _
  have hrn : rndN P C neg mode = P / C + if decide (0 < P % C) && grows neg mode then 1 else 0 := rfl
  obtain ⟨Q, hQd⟩ : ∃ Q, Q = P / C := ⟨_, rfl⟩
  obtain ⟨R, hRd⟩ : ∃ R, R = P % C := ⟨_, rfl⟩
  rw [← hQd] at hrn O hQ
  rw [← hRd] at hrn O
  have F := fun neg W => of_calls (rndN P C neg mode) neg W (by unfold rndN; rw [← hQd]; split <;> omega)
  have HT := Lib.hid T
  have HO := Lib.hid O
  have HF := Lib.hid F
  have Hf := Lib.hid hf
  have Hrn := Lib.hid hrn
  have HQl := Lib.hid (show Q ≤ 21267647932558653966460912964485513216 by omega)
  have HE := Lib.hid eneg
  clear T O F hf hrn hQd hRd hQ hPlt hP h1 h2 h3 hC eneg
  go_enter Tryd.func21, Tryd.ntmps21
  go_upto_if 42 with (first | (go_at_call 30; refine (rfits_calls _ _).mono ?_; rintro e w' ⟨rfl, rfl⟩))
  go_cut [10] (fun v wc => v = .bool neg ∧ w = wc)
  case first =>
    by_cases hcn : c < 0
    · have HE2 : (!(decide (a < 0) == decide (b < 0))) = !neg := by
        have := HE.out
        rw [decide_eq_true hcn] at this
        rw [← this]; cases decide (a < 0) <;> cases decide (b < 0) <;> rfl
      clear HE S1 S2 S3 HT HO HF Hf Hrn HQl
      go_wp2_with fail
      go_meet
      case rel => exact ⟨rfl, rfl⟩
    · have HE2 : (!(decide (a < 0) == decide (b < 0))) = neg := by
        have := HE.out
        rw [decide_eq_false hcn] at this
        rw [← this]; cases decide (a < 0) <;> cases decide (b < 0) <;> rfl
      clear HE S1 S2 S3 HT HO HF Hf Hrn HQl
      go_wp2_with fail
      go_meet
      case rel => exact ⟨rfl, rfl⟩
  case rest =>
    obtain ⟨rfl, rfl⟩ := hcut
    clear HE
    go_upto_region 9 with (first | (go_at_call 33; refine (S1.out _).mono ?_; rintro e w' ⟨rfl, rfl⟩; clear S1) | (go_at_call 33; refine (S2.out _).mono ?_; rintro e w' ⟨rfl, rfl⟩; clear S2) | (go_at_call 33; refine (S3.out _).mono ?_; rintro e w' ⟨rfl, rfl⟩) | (go_at_call 32; refine (HT.out _).mono ?_; rintro e w1 ⟨rfl, b1⟩) | (go_at_call 31; refine (HO.out _).mono ?_; rintro e w2 ⟨rfl, b2⟩))
    clear S3 HT HO
    have hB2 := b1.trans (b2.mono b1.size)
    have x0 : Box (w2.alloc (.cells #[.int .u64 (hiN Q : Nat), .int .u64 (loN Q : Nat)] 52)) w2.heap.size 52 #[.int .u64 (hiN Q : Nat), .int .u64 (loN Q : Nat)] := Box.new _ _ _
    have hB3 : Below w.heap.size w (w2.alloc (.cells #[.int .u64 (hiN Q : Nat), .int .u64 (loN Q : Nat)] 52)) := hB2.alloc hB2.size _
    obtain ⟨g, hg⟩ : ∃ g, g = (decide (0 < R) && grows neg mode) := ⟨_, rfl⟩
    rw [← hg] at Hrn
    have hgI : (decide ((0 : Int) < (R : Int)) && grows neg mode) = g := by
      rw [hg]; congr 1; rw [decide_eq_decide]; omega
    clear hg b1 b2
    have HS := Lib.hid hB2.size
    generalize hw3 : w2.alloc (.cells #[.int .u64 (hiN Q : Nat), .int .u64 (loN Q : Nat)] 52) = w3 at x0 hB3 ⊢
    clear hw3 hB2
    go_cut [76] (fun v wc => v = .bool g ∧ w3 = wc)
    case first =>
      clear HF Hf Hrn HQl x0 hB3 HS
      have hm : mode = 0 ∨ mode = 1 ∨ mode = 2 ∨ mode = 3 := by omega
      by_cases hR : (0 : Int) < (R : Int)
      · rw [decide_eq_true hR, Bool.true_and] at hgI
        clear hm0 hm3
        rcases hm with rfl | rfl | rfl | rfl <;> cases neg
        all_goals
          subst hgI
          go_wp2_with fail
          go_meet
          case rel => exact ⟨rfl, rfl⟩
      · rw [decide_eq_false hR, Bool.false_and] at hgI
        subst hgI
        clear hm hm0 hm3
        go_wp2_with fail
        go_meet
        case rel => exact ⟨rfl, rfl⟩
    case rest =>
      obtain ⟨rfl, rfl⟩ := hcut
      clear hgI
      have F := fun W => HF.out neg W
      obtain ⟨RN, hRN⟩ : ∃ RN, RN = rndN P C neg mode := ⟨_, rfl⟩
      have hrn := Hrn.out
      rw [← hRN] at F hrn
      have hf := Hf.out
      rw [← hRN] at hf
      have hQl := HQl.out
      clear HF Hf Hrn HQl hRN
      have c0 := x0.cell 0
      have c1 := x0.cell 1
      have f0 := x0.frozen
      have hf' := Lib.hid hf
      clear hf
      cases g
      · have e : RN = Q := by rw [hrn]; rfl
        subst e
        have HF := Lib.hid F
        clear F hrn hQl
        go_wp2_with (go_at_call 34; refine (HF.out _).mono ?_; rintro e w4 ⟨rfl, b4⟩)
        go_ret2
        exact ⟨by rw [hf'.out]; exact ret_pair rfl rfl, hB3.trans (b4.mono hB3.size)⟩
      · have e : RN = Q + 1 := by rw [hrn]; rfl
        subst e
        have hw := wide_one Q
        obtain ⟨A1, hA1⟩ : ∃ A1, A1 = hiN (Q + 1) := ⟨_, rfl⟩
        obtain ⟨B1, hB1⟩ : ∃ B1, B1 = loN (Q + 1) := ⟨_, rfl⟩
        rw [← hA1, ← hB1] at hw F
        have hl := lo_lt Q
        have hh := hi_lt (Q + 1) (by omega)
        rw [← hA1] at hh
        have E1 : IntKind.u64.wrap ((loN Q : Nat) + 1) = (B1 : Int) := wrap_u _ _ (by rw [← hw.1]; omega)
        have HF := Lib.hid F
        by_cases hz : B1 = 0
        · have hzI : ((B1 : Int) == 0) = true := by simp [hz]
          have e2 := hw.2.1 hz
          have E2 : IntKind.u64.wrap ((hiN Q : Nat) + 1) = (A1 : Int) := wrap_u _ _ (by rw [← e2]; omega)
          have q := (x0.set 1 (.int .u64 (B1 : Nat))).set 0 (.int .u64 (A1 : Nat))
          have hb4 := Lib.hid ((hB3.setCell (p := ⟨w2.heap.size, 1, none⟩) HS.out (.int .u64 (B1 : Nat))).setCell (p := ⟨w2.heap.size, 0, none⟩) HS.out (.int .u64 (A1 : Nat)))
          have q0 := q.cell 0
          have q1 := q.cell 1
          clear F hrn hQl e2 hw hA1 hB1 hl hh hz q
          go_wp2_with (go_at_call 34; refine (HF.out _).mono ?_; rintro e w4 ⟨rfl, b4⟩)
          go_ret2
          exact ⟨by rw [hf'.out]; exact ret_pair rfl rfl, hb4.out.trans (b4.mono hb4.out.size)⟩
        · have hzI : ((B1 : Int) == 0) = false := by simpa using hz
          have e2 := hw.2.2 hz
          rw [e2] at x0 c0 c1
          have q := x0.set 1 (.int .u64 (B1 : Nat))
          have hb4 := Lib.hid (hB3.setCell (p := ⟨w2.heap.size, 1, none⟩) HS.out (.int .u64 (B1 : Nat)))
          have q0 := q.cell 0
          have q1 := q.cell 1
          clear F hrn hQl e2 hw hA1 hB1 hl hh hz q
          go_wp2_with (go_at_call 34; refine (HF.out _).mono ?_; rintro e w4 ⟨rfl, b4⟩)
          go_ret2
          exact ⟨by rw [hf'.out]; exact ret_pair rfl rfl, hb4.out.trans (b4.mono hb4.out.size)⟩

/-- MulDiv by the document, of all that can be handed in -/
theorem rmuldiv_calls (a b c mode : Int) (w : World) (ha : I64 a) (hb : I64 b) (hc : I64 c) :
    Calls Tryd.prog 21 #[.int .i64 a, .int .i64 b, .int .i64 c, .int .i64 mode] w fun e w' =>
      e = .returned (.tuple #[.int .i64 (mulDivF a b c mode).1, .int .i64 (mulDivF a b c mode).2]) ∧ Below w.heap.size w w' := by
  by_cases h : fits a = false ∨ fits b = false ∨ fits c = false
  · exact (rmuldiv_no a b c mode w h).mono fun e w' ⟨he, hw⟩ => ⟨he, hw ▸ Below.refl _ _⟩
  · have fa : fits a = true := by cases hx : fits a <;> simp_all
    have fb : fits b = true := by cases hx : fits b <;> simp_all
    have fc : fits c = true := by cases hx : fits c <;> simp_all
    by_cases h2 : c = 0 ∨ mode < 0 ∨ 3 < mode
    · exact (rmuldiv_arg a b c mode w fa fb fc h2).mono fun e w' ⟨he, hw⟩ => ⟨he, hw ▸ Below.refl _ _⟩
    · exact rmuldiv_yes a b c mode w ha hb hc fa fb fc (by omega) (by omega) (by omega)
end Go.Proofs.YtghcbkkabhlchaaDoor.FixpR
