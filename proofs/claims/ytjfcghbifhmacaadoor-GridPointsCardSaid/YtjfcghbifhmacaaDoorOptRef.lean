/- The document's own Value, of layer 11. -/
import Derived.Test.YtjfcghbifhmacaaDoorOptValue
namespace Go.Proofs.YtjfcghbifhmacaaDoor.OptW
open Go.RowKit Go.Proofs.YtjfcghbifhmacaaDoor.Bas Go.Proofs.YtjfcghbifhmacaaDoor.FixpM Go.Proofs.YtjfcghbifhmacaaDoor.FixpW Go.Proofs.YtjfcghbifhmacaaDoor.FixpR

theorem rmark_calls (x : Int) (w : World) :
    Calls Tryd.prog 26 #[.int .i64 x] w fun e w' => e = .returned (.bool (markIn x)) ∧ w = w' := by
  by_cases h1 : 0 ≤ x
  · by_cases h2 : x ≤ 100000000000000
    · go_enter Tryd.func26, Tryd.ntmps26
      go_wp2_with fail
      go_ret
      exact ⟨ret_bool (by simp [markIn, within, h1, h2]), rfl⟩
    · go_enter Tryd.func26, Tryd.ntmps26
      go_wp2_with fail
      go_ret
      exact ⟨ret_bool (by simp only [markIn, within]; rw [Bool.eq_iff_iff]; simp; omega), rfl⟩
  · go_enter Tryd.func26, Tryd.ntmps26
    go_wp2_with fail
    go_ret
    exact ⟨ret_bool (by simp only [markIn, within]; rw [Bool.eq_iff_iff]; simp; omega), rfl⟩

set_option maxHeartbeats 1000000 in
theorem rvalue_arg (call : Bool) (s p v d : Int) (w : World) (h : markIn s = false ∨ markIn p = false ∨ markIn v = false) :
    Calls Tryd.prog 27 #[.bool call, .int .i64 s, .int .i64 p, .int .i64 v, .int .i64 d] w fun e w' =>
      e = .returned (.tuple #[.int .i64 (valueF call s p v d).1, .int .i64 (valueF call s p v d).2]) ∧ w = w' := by
  have hf := Lib.hid (valueF_arg call s p v d h)
  have C1 := fun W => rmark_calls s W
  have C2 := fun W => rmark_calls p W
  have C3 := fun W => rmark_calls v W
  generalize markIn s = x1 at h C1
  generalize markIn p = x2 at h C2
  generalize markIn v = x3 at h C3
  have D1 := Lib.hid C1
  have D2 := Lib.hid C2
  have D3 := Lib.hid C3
  clear C1 C2 C3
  cases x1
  · clear h
    go_enter Tryd.func27, Tryd.ntmps27
    go_wp2_with (first | (go_at_call 26; refine (D1.out _).mono ?_; rintro e w' ⟨rfl, rfl⟩))
    go_ret2
    exact ⟨by rw [hf.out]; exact ret_pair rfl rfl, rfl⟩
  · cases x2
    · clear h
      go_enter Tryd.func27, Tryd.ntmps27
      go_wp2_with (first | (go_at_call 26; refine (D1.out _).mono ?_; rintro e w' ⟨rfl, rfl⟩; clear D1) | (go_at_call 26; refine (D2.out _).mono ?_; rintro e w' ⟨rfl, rfl⟩))
      go_ret2
      exact ⟨by rw [hf.out]; exact ret_pair rfl rfl, rfl⟩
    · cases x3
      · clear h
        go_enter Tryd.func27, Tryd.ntmps27
        go_wp2_with (first | (go_at_call 26; refine (D1.out _).mono ?_; rintro e w' ⟨rfl, rfl⟩; clear D1) | (go_at_call 26; refine (D2.out _).mono ?_; rintro e w' ⟨rfl, rfl⟩; clear D2) | (go_at_call 26; refine (D3.out _).mono ?_; rintro e w' ⟨rfl, rfl⟩))
        go_ret2
        exact ⟨by rw [hf.out]; exact ret_pair rfl rfl, rfl⟩
      · simp at h

set_option maxHeartbeats 2000000 in
set_option maxRecDepth 100000 in
theorem rvalue_in (call : Bool) (s p v d : Int) (w : World) (hs : markIn s = true) (hp : markIn p = true) (hv : markIn v = true) (hd : I64 d) :
    Calls Tryd.prog 27 #[.bool call, .int .i64 s, .int .i64 p, .int .i64 v, .int .i64 d] w fun e w' =>
      e = .returned (.tuple #[.int .i64 (valueF call s p v d).1, .int .i64 (valueF call s p v d).2]) ∧ Below w.heap.size w w' := by
  have hf := valueF_in call s p v d hs hp hv
  have C1 := fun W => rmark_calls s W
  have C2 := fun W => rmark_calls p W
  have C3 := fun W => rmark_calls v W
  rw [hs] at C1
  rw [hp] at C2
  rw [hv] at C3
  have D1 := Lib.hid C1
  have D2 := Lib.hid C2
  have D3 := Lib.hid C3
  clear C1 C2 C3
  obtain ⟨g, hg⟩ : ∃ g, g = gapF call s p := ⟨_, rfl⟩
  rw [← hg] at hf
  have hs' := marks s hs
  have hp' := marks p hp
  have hv' := marks v hv
  have hgap : (call = true → p - s = g) ∧ (call = false → s - p = g) := by
    refine ⟨fun h => ?_, fun h => ?_⟩ <;> rw [hg, h] <;> simp only [gapF, if_true, Bool.false_eq_true, if_false]
  have hgl : -100000000000000 ≤ g ∧ g ≤ 100000000000000 := by rw [hg]; unfold gapF; split <;> omega
  have HG := Lib.hid hgap
  have Hf := Lib.hid hf
  clear hg hgap hf hs hp hv
  go_enter Tryd.func27, Tryd.ntmps27
  go_upto_if 36 with (first | (go_at_call 26; refine (D1.out _).mono ?_; rintro e w' ⟨rfl, rfl⟩; clear D1) | (go_at_call 26; refine (D2.out _).mono ?_; rintro e w' ⟨rfl, rfl⟩; clear D2) | (go_at_call 26; refine (D3.out _).mono ?_; rintro e w' ⟨rfl, rfl⟩))
  clear D3
  go_cut [12] (fun x wc => x = .int .i64 g ∧ w = wc)
  case first =>
    clear Hf
    cases call
    · have e1 := Lib.hid (HG.out.2 rfl)
      clear HG hgl
      go_wp2_with fail
      go_meet
      case rel => exact ⟨by rw [e1.out], rfl⟩
    · have e1 := Lib.hid (HG.out.1 rfl)
      clear HG hgl
      go_wp2_with fail
      go_meet
      case rel => exact ⟨by rw [e1.out], rfl⟩
  case rest =>
    obtain ⟨rfl, rfl⟩ := hcut
    clear HG
    go_upto_if 42 with fail
    go_cut [13] (fun x wc => x = .int .i64 (max g 0) ∧ w = wc)
    case first =>
      clear Hf
      by_cases hg0 : g < 0
      · have e1 := Lib.hid (show max g 0 = 0 by omega)
        go_wp2_with fail
        go_meet
        case rel => exact ⟨by rw [e1.out], rfl⟩
      · have e1 := Lib.hid (show max g 0 = g by omega)
        go_wp2_with fail
        go_meet
        case rel => exact ⟨by rw [e1.out], rfl⟩
    case rest =>
      obtain ⟨rfl, rfl⟩ := hcut
      by_cases h0 : d ≤ 0
      · have e := Hf.out
        rw [if_pos h0] at e
        have E := Lib.hid e
        clear Hf e
        go_wp2_with fail
        go_ret2
        exact ⟨by rw [E.out]; exact ret_pair rfl rfl, Below.refl _ _⟩
      · have e := Hf.out
        rw [if_neg h0] at e
        by_cases h1 : 100000 < d
        · rw [if_pos h1] at e
          have E := Lib.hid e
          clear Hf e
          go_wp2_with fail
          go_ret2
          exact ⟨by rw [E.out]; exact ret_pair rfl rfl, Below.refl _ _⟩
        · rw [if_neg h1] at e
          have M := fun W => rmul_calls v d W (by unfold I64; omega) hd
          have two := two_mulF v d
          obtain ⟨⟨m1, m2⟩, hm⟩ : ∃ m, m = mulF v d := ⟨_, rfl⟩
          rw [← hm] at M e two
          have HM := Lib.hid M
          clear M hm Hf
          by_cases h2 : m2 = 0
          · subst h2
            have fm : fits m1 = true := by
              rcases two with h | h
              · simp at h
              · exact h.2
            rw [if_pos rfl] at e
            have K := fun W => rmuldiv_calls s m1 3650000 0 W (by unfold I64; omega) (i64_of_fits fm) (by unfold I64; omega)
            have two2 := two_mulDivF s m1 3650000 0
            obtain ⟨⟨t1, t2⟩, ht⟩ : ∃ m, m = mulDivF s m1 3650000 0 := ⟨_, rfl⟩
            simp only [] at e
            rw [← ht] at K e two2
            have HK := Lib.hid K
            clear K ht
            by_cases h3 : t2 = 0
            · subst h3
              rw [if_pos rfl] at e
              have ft : fits t1 = true := by
                rcases two2 with h | h | h
                · simp at h
                · simp at h
                · exact h.2
              have ft' := (fits_iff t1).1 ft
              obtain ⟨half, hh⟩ : ∃ h, h = (max g (-g)).tdiv 2 := ⟨_, rfl⟩
              have hhl : 0 ≤ half ∧ half ≤ 50000000000000 := by rw [hh, Int.tdiv_eq_ediv_of_nonneg (by omega)]; omega
              have T0 : wrap64 half = half := by unfold wrap64; omega
              have T1 : wrap64 (t1 - half) = t1 - half := by unfold wrap64; omega
              have A := fun W => radd_calls (max g 0) (max (t1 - half) 0) W
              have e' : valueF call s p v d = addF (max g 0) (max (t1 - half) 0) := by rw [e, hh]; rfl
              obtain ⟨⟨a1, a2⟩, hA⟩ : ∃ m, m = addF (max g 0) (max (t1 - half) 0) := ⟨_, rfl⟩
              rw [← hA] at A e'
              have E := Lib.hid e'
              clear hA e e' hhl ft ft' two two2 hs' hp' hv' fm
              by_cases hg0 : g < 0
              · have em : max g (-g) = -g := by omega
                rw [em] at hh
                have hh' := hh.symm
                clear hh em
                by_cases hn : t1 - half < 0
                · rw [show max (t1 - half) 0 = 0 by omega] at A
                  have HA := Lib.hid A
                  clear A
                  go_wp2_with (first | (go_at_call 44; refine (HM.out _).mono ?_; rintro e w1 ⟨rfl, b1⟩; clear HM) | (go_at_call 22; refine (HK.out _).mono ?_; rintro e w2 ⟨rfl, b2⟩; clear HK) | (go_at_call 45; refine (HA.out _).mono ?_; rintro e w' ⟨rfl, rfl⟩))
                  go_ret2
                  exact ⟨by rw [E.out]; exact ret_pair rfl rfl, b1.trans (b2.mono b1.size)⟩
                · rw [show max (t1 - half) 0 = t1 - half by omega] at A
                  have HA := Lib.hid A
                  clear A
                  go_wp2_with (first | (go_at_call 44; refine (HM.out _).mono ?_; rintro e w1 ⟨rfl, b1⟩; clear HM) | (go_at_call 22; refine (HK.out _).mono ?_; rintro e w2 ⟨rfl, b2⟩; clear HK) | (go_at_call 45; refine (HA.out _).mono ?_; rintro e w' ⟨rfl, rfl⟩))
                  go_ret2
                  exact ⟨by rw [E.out]; exact ret_pair rfl rfl, b1.trans (b2.mono b1.size)⟩
              · have em : max g (-g) = g := by omega
                rw [em] at hh
                have hh' := hh.symm
                clear hh em
                by_cases hn : t1 - half < 0
                · rw [show max (t1 - half) 0 = 0 by omega] at A
                  have HA := Lib.hid A
                  clear A
                  go_wp2_with (first | (go_at_call 44; refine (HM.out _).mono ?_; rintro e w1 ⟨rfl, b1⟩; clear HM) | (go_at_call 22; refine (HK.out _).mono ?_; rintro e w2 ⟨rfl, b2⟩; clear HK) | (go_at_call 45; refine (HA.out _).mono ?_; rintro e w' ⟨rfl, rfl⟩))
                  go_ret2
                  exact ⟨by rw [E.out]; exact ret_pair rfl rfl, b1.trans (b2.mono b1.size)⟩
                · rw [show max (t1 - half) 0 = t1 - half by omega] at A
                  have HA := Lib.hid A
                  clear A
                  go_wp2_with (first | (go_at_call 44; refine (HM.out _).mono ?_; rintro e w1 ⟨rfl, b1⟩; clear HM) | (go_at_call 22; refine (HK.out _).mono ?_; rintro e w2 ⟨rfl, b2⟩; clear HK) | (go_at_call 45; refine (HA.out _).mono ?_; rintro e w' ⟨rfl, rfl⟩))
                  go_ret2
                  exact ⟨by rw [E.out]; exact ret_pair rfl rfl, b1.trans (b2.mono b1.size)⟩
            · rw [if_neg h3] at e
              have E := Lib.hid e
              have hb : (t2 != 0) = true := by simpa using h3
              clear e two two2 hs' hp' hv' fm hgl
              go_wp2_with (first | (go_at_call 44; refine (HM.out _).mono ?_; rintro e w1 ⟨rfl, b1⟩; clear HM) | (go_at_call 22; refine (HK.out _).mono ?_; rintro e w2 ⟨rfl, b2⟩; clear HK))
              go_ret2
              exact ⟨by rw [E.out]; exact ret_pair rfl rfl, b1.trans (b2.mono b1.size)⟩
          · rw [if_neg h2] at e
            have E := Lib.hid e
            have hb : (m2 != 0) = true := by simpa using h2
            clear e
            go_wp2_with (first | (go_at_call 44; refine (HM.out _).mono ?_; rintro e w1 ⟨rfl, b1⟩))
            go_ret2
            exact ⟨by rw [E.out]; exact ret_pair rfl rfl, b1⟩

/-- the document's Value, of all that can be handed in -/
theorem rvalue_calls (call : Bool) (s p v d : Int) (w : World) (hd : I64 d) :
    Calls Tryd.prog 27 #[.bool call, .int .i64 s, .int .i64 p, .int .i64 v, .int .i64 d] w fun e w' =>
      e = .returned (.tuple #[.int .i64 (valueF call s p v d).1, .int .i64 (valueF call s p v d).2]) ∧ Below w.heap.size w w' := by
  by_cases h : markIn s = false ∨ markIn p = false ∨ markIn v = false
  · exact (rvalue_arg call s p v d w h).mono fun e w' ⟨he, hw⟩ => ⟨he, hw ▸ Below.refl _ _⟩
  · simp only [not_or, Bool.not_eq_false] at h
    exact rvalue_in call s p v d w h.1 h.2.1 h.2.2 hd
end Go.Proofs.YtjfcghbifhmacaaDoor.OptW
