/- Sum and Prod: one by one (printed by gensum.py). -/
import Derived.Test.YtihjphfdgimmbaaFixpMulDiv
namespace Go.Proofs.Ytihjphfdgimmbaa.FixpW
open Go.RowKit Go.Proofs.Ytihjphfdgimmbaa.Bas Go.Proofs.Ytihjphfdgimmbaa.FixpM

/-- one by one, till one fails -/
def foldF (f : Int → Int → Int × Int) : Int → List Int → Int × Int
  | t, [] => (t, 0)
  | t, x :: xs => if (f t x).2 = 0 then foldF f (f t x).1 xs else f t x
theorem foldF_drop (f : Int → Int → Int × Int) (t : Int) (xs : List Int) (k : Nat) (h : k < xs.length) :
    foldF f t (xs.drop k) = if (f t xs[k]).2 = 0 then foldF f (f t xs[k]).1 (xs.drop (k + 1)) else f t xs[k] := by
  rw [List.drop_eq_getElem_cons h]; rfl
/-- nought and ErrOver, or an amount and OK -/
def Two (p : Int × Int) : Prop := p = (0, 4) ∨ (p.2 = 0 ∧ fits p.1 = true)
theorem two_okv (x : Int) : Two (okv x) := by
  unfold Two okv
  cases h : fits x
  · exact .inl rfl
  · exact .inr ⟨rfl, h⟩
theorem two_addF (a b : Int) : Two (addF a b) := by
  unfold addF; split
  · exact two_okv _
  · exact .inl rfl
theorem two_subF (a b : Int) : Two (subF a b) := by
  unfold subF; split
  · exact two_okv _
  · exact .inl rfl
theorem two_mulF (a b : Int) : Two (mulF a b) := by
  unfold mulF; split
  · exact two_okv _
  · exact .inl rfl
theorem i64_of_fits {x : Int} (h : fits x = true) : I64 x := by rw [fits_iff] at h; unfold I64; omega

set_option maxHeartbeats 1000000 in
theorem sum_calls (a : Option Addr) (cap : Nat) (xs : List Int) (w : World) (hbig : xs.length ≤ 9223372036854775807) (hc : At w a (i64s xs)) (hx : ∀ x ∈ xs, I64 x) :
    Calls Try.prog 20 #[.slice a xs.length cap] w fun e w' => e = .returned (.tuple #[.int .i64 (foldF addF 0 xs).1, .int .i64 (foldF addF 0 xs).2]) ∧ w = w' := by
  go_enter Try.func20, Try.ntmps20
  go_wp2_with fail
  go_loop [4, 11] (fun t i => ∃ (k : Nat) (t0 : Int), k ≤ xs.length ∧ i = .int .i64 k ∧ t = .int .i64 t0 ∧ fits t0 = true ∧ Hid (foldF addF 0 xs = foldF addF t0 (xs.drop k)))
    (fun _ i => xs.length - (intOf i).toNat)
  case atStart => exact ⟨0, 0, by omega, rfl, rfl, rfl, rfl⟩
  case round =>
    obtain ⟨k, t0, hk, rfl, rfl, ht, H⟩ := hrel
    by_cases hlt : k < xs.length
    · obtain ⟨b, off, rfl, hcell⟩ := hc k _ (i64s_get xs k hlt)
      clear hc
      have hd := Lib.hid (foldF_drop addF t0 xs k hlt)
      have hxk := hx _ (List.getElem_mem hlt)
      have hX := Lib.hid hx
      clear hx
      generalize xs[k] = x at hcell hd hxk
      have C := Lib.hid (fun W => add_calls t0 x W (i64_of_fits ht) hxk)
      have two := two_addF t0 x
      obtain ⟨p, hp⟩ : ∃ p, p = addF t0 x := ⟨_, rfl⟩
      rw [← hp] at hd C two
      have e := H.out
      rw [hd.out] at e
      clear H hd hp hxk
      rcases two with rfl | ⟨h2, hf⟩
      · have e' := Lib.hid e
        clear e
        go_wp2_with (go_at_call 12; refine (C.out _).mono ?_; rintro e w' ⟨rfl, rfl⟩)
        go_ret2
        exact ⟨by rw [e'.out]; exact ret_pair rfl rfl, rfl⟩
      · obtain ⟨p1, p2⟩ := p
        simp only at h2 hf
        subst h2
        have e' : Hid (foldF addF 0 xs = foldF addF p1 (xs.drop (k + 1))) := e
        clear e
        go_wp2_with (go_at_call 12; refine (C.out _).mono ?_; rintro e w' ⟨rfl, rfl⟩)
        go_round
        case rel => exact ⟨k + 1, p1, by omega, by go_num, rfl, hf, e'⟩
        case measure => simp [intOf]; omega
    · have hkk : k = xs.length := by omega
      subst hkk
      have e := H.out
      rw [List.drop_length] at e
      have e' := Lib.hid e
      clear H e
      go_wp2_with fail
      go_ret2
      exact ⟨by rw [e'.out]; exact ret_pair rfl rfl, rfl⟩

set_option maxHeartbeats 1000000 in
theorem prod_calls (a : Option Addr) (cap : Nat) (xs : List Int) (w : World) (hbig : xs.length ≤ 9223372036854775807) (hc : At w a (i64s xs)) (hx : ∀ x ∈ xs, I64 x) :
    Calls Try.prog 21 #[.slice a xs.length cap] w fun e w' => e = .returned (.tuple #[.int .i64 (foldF mulF 1 xs).1, .int .i64 (foldF mulF 1 xs).2]) ∧ w = w' := by
  go_enter Try.func21, Try.ntmps21
  go_wp2_with fail
  go_loop [4, 11] (fun t i => ∃ (k : Nat) (t0 : Int), k ≤ xs.length ∧ i = .int .i64 k ∧ t = .int .i64 t0 ∧ fits t0 = true ∧ Hid (foldF mulF 1 xs = foldF mulF t0 (xs.drop k)))
    (fun _ i => xs.length - (intOf i).toNat)
  case atStart => exact ⟨0, 1, by omega, rfl, rfl, rfl, rfl⟩
  case round =>
    obtain ⟨k, t0, hk, rfl, rfl, ht, H⟩ := hrel
    by_cases hlt : k < xs.length
    · obtain ⟨b, off, rfl, hcell⟩ := hc k _ (i64s_get xs k hlt)
      clear hc
      have hd := Lib.hid (foldF_drop mulF t0 xs k hlt)
      have hxk := hx _ (List.getElem_mem hlt)
      have hX := Lib.hid hx
      clear hx
      generalize xs[k] = x at hcell hd hxk
      have C := Lib.hid (fun W => mul_calls t0 x W (i64_of_fits ht) hxk)
      have two := two_mulF t0 x
      obtain ⟨p, hp⟩ : ∃ p, p = mulF t0 x := ⟨_, rfl⟩
      rw [← hp] at hd C two
      have e := H.out
      rw [hd.out] at e
      clear H hd hp hxk
      rcases two with rfl | ⟨h2, hf⟩
      · have e' := Lib.hid e
        clear e
        go_wp2_with (go_at_call 18; refine (C.out _).mono ?_; rintro e w' ⟨rfl, rfl⟩)
        go_ret2
        exact ⟨by rw [e'.out]; exact ret_pair rfl rfl, rfl⟩
      · obtain ⟨p1, p2⟩ := p
        simp only at h2 hf
        subst h2
        have e' : Hid (foldF mulF 1 xs = foldF mulF p1 (xs.drop (k + 1))) := e
        clear e
        go_wp2_with (go_at_call 18; refine (C.out _).mono ?_; rintro e w' ⟨rfl, rfl⟩)
        go_round
        case rel => exact ⟨k + 1, p1, by omega, by go_num, rfl, hf, e'⟩
        case measure => simp [intOf]; omega
    · have hkk : k = xs.length := by omega
      subst hkk
      have e := H.out
      rw [List.drop_length] at e
      have e' := Lib.hid e
      clear H e
      go_wp2_with fail
      go_ret2
      exact ⟨by rw [e'.out]; exact ret_pair rfl rfl, rfl⟩
end Go.Proofs.Ytihjphfdgimmbaa.FixpW
