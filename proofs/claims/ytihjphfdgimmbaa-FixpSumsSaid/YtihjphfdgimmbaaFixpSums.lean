/- FixpSums: the walk, and the step from the law's arguments to it. -/
import Derived.Test.YtihjphfdgimmbaaFixpWakes
namespace Go.Proofs.Ytihjphfdgimmbaa.fixpSums
open Go.ChangeShapes Go.WideShapes Go.ChangeAt Go.RowKit Go.Proofs.Ytihjphfdgimmbaa.Bas Go.Proofs.Ytihjphfdgimmbaa.FixpM Go.Proofs.Ytihjphfdgimmbaa.FixpW Go.Proofs.Ytihjphfdgimmbaa.FixpR

/-- how far the adding has come -/
def Acc (f : Int → Int → Int × Int) (t : Int) (xs : List Int) (k : Nat) (a b : Int) : Prop :=
  Two (a, b) ∧ foldF f t xs = if b = 0 then foldF f a (xs.drop k) else (a, b)
theorem acc_start (f : Int → Int → Int × Int) (t : Int) (xs : List Int) (h : fits t = true) : Acc f t xs 0 t 0 := ⟨.inr ⟨rfl, h⟩, rfl⟩
theorem acc_next {f : Int → Int → Int × Int} {t : Int} {xs : List Int} {k : Nat} {a : Int} (two : ∀ a b, Two (f a b)) (h : Acc f t xs k a 0) (hk : k < xs.length) :
    Acc f t xs (k + 1) (f a xs[k]).1 (f a xs[k]).2 := by
  refine ⟨two _ _, ?_⟩
  rw [h.2, if_pos rfl, foldF_drop f a xs k hk]
theorem acc_skip {f : Int → Int → Int × Int} {t : Int} {xs : List Int} {k : Nat} {a b : Int} (h : Acc f t xs k a b) (hb : b ≠ 0) : Acc f t xs (k + 1) a b := by
  refine ⟨h.1, ?_⟩
  rw [h.2, if_neg hb, if_neg hb]
theorem acc_end {f : Int → Int → Int × Int} {t : Int} {xs : List Int} {a b : Int} (h : Acc f t xs xs.length a b) : foldF f t xs = (a, b) := by
  rw [h.2, List.drop_length]
  split
  · rename_i hb; rw [hb]; rfl
  · rfl
theorem acc_fits {f : Int → Int → Int × Int} {t : Int} {xs : List Int} {k : Nat} {a : Int} (h : Acc f t xs k a 0) : I64 a := by
  rcases h.1 with h | h
  · simp at h
  · exact i64_of_fits h.2

set_option maxHeartbeats 4000000 in
theorem walk (a : Option Addr) (cap : Nat) (xs : List Int) (w : World) (hbig : xs.length ≤ 9223372036854775807) (hc : At w a (i64s xs)) (hx : ∀ x ∈ xs, I64 x) :
    Calls Try.prog 7 #[.slice a xs.length cap] w fun e w' => e = .returned (.bool true) ∧ Below w.heap.size w w' := by
  have D0 := Lib.hid (fun W => wakes_calls W)
  go_enter Try.func7, Try.ntmps7
  go_wp2_with (go_at_call 9; refine (D0.out _).mono ?_; rintro e w' ⟨rfl, n, rfl⟩)
  clear D0
  have hB0 := below_drewN (Below.refl w.heap.size w) n
  generalize w.drewN n = w0 at hB0 ⊢
  go_loopw [3, 4, 5, 6, 17] (fun s p e f i wr => ∃ (k : Nat) (s0 p0 e0 f0 : Int), k ≤ xs.length ∧ s = .int .i64 s0 ∧ p = .int .i64 p0 ∧ e = .int .i64 e0 ∧ f = .int .i64 f0 ∧ i = .int .i64 k ∧ Hid (Acc addF 0 xs k s0 e0) ∧ Hid (Acc mulF 1 xs k p0 f0) ∧ Below w.heap.size w wr)
    (fun _ _ _ _ i _ => xs.length - (intOf i).toNat)
  case atStart => exact ⟨0, 0, 1, 0, 0, by omega, rfl, rfl, rfl, rfl, rfl, acc_start _ _ _ rfl, acc_start _ _ _ rfl, hB0⟩
  case round =>
    clear hB0
    obtain ⟨k, s0, p0, e0, f0, hk, rfl, rfl, rfl, rfl, rfl, HS, HP, hbr⟩ := hrel
    have hcr := hc.keep hbr
    clear hc
    by_cases hlt : k < xs.length
    · obtain ⟨b, off, rfl, hcell⟩ := hcr k _ (i64s_get xs k hlt)
      clear hcr
      have ns : ∀ h0 : e0 = 0, Acc addF 0 xs (k + 1) (addF s0 xs[k]).1 (addF s0 xs[k]).2 := fun h0 => acc_next two_addF (h0 ▸ HS.out) hlt
      have np : ∀ h0 : f0 = 0, Acc mulF 1 xs (k + 1) (mulF p0 xs[k]).1 (mulF p0 xs[k]).2 := fun h0 => acc_next two_mulF (h0 ▸ HP.out) hlt
      have hxk := hx _ (List.getElem_mem hlt)
      have hX := Lib.hid hx
      generalize xs[k] = x at hcell ns np hxk
      have C1 := Lib.hid (fun W => radd_calls s0 x W)
      have C2 := Lib.hid (fun (h0 : f0 = 0) W => rmul_calls p0 x W (acc_fits (h0 ▸ HP.out)) hxk)
      generalize addF s0 x = ps at ns C1
      generalize mulF p0 x = pp at np C2
      obtain ⟨s1, e1⟩ := ps
      obtain ⟨p1, f1⟩ := pp
      have NS := Lib.hid ns
      have NP := Lib.hid np
      clear hX hx ns np hxk
      by_cases he : e0 = 0
      · have heb : (e0 == 0) = true := by simpa using he
        by_cases hf : f0 = 0
        · have hfb : (f0 == 0) = true := by simpa using hf
          have n1 := Lib.hid (NS.out he)
          have n2 := Lib.hid (NP.out hf)
          have C2' := Lib.hid (C2.out hf)
          clear NS NP he hf C2 HS HP
          go_wp2_with (first | (go_at_call 13; refine (C1.out _).mono ?_; rintro e w' ⟨rfl, rfl⟩) | (go_at_call 19; refine (C2'.out _).mono ?_; rintro e w4 ⟨rfl, b4⟩))
          go_roundw
          case rel => exact ⟨k + 1, s1, p1, e1, f1, by omega, rfl, rfl, rfl, rfl, by go_num, n1, n2, hbr.trans (b4.mono hbr.size)⟩
          case measure => simp [intOf]; omega
        · have hfb : (f0 == 0) = false := by simpa using hf
          have n1 := Lib.hid (NS.out he)
          have n2 := Lib.hid (acc_skip HP.out hf)
          clear NS NP he hf C2 HS HP
          go_wp2_with (first | (go_at_call 13; refine (C1.out _).mono ?_; rintro e w' ⟨rfl, rfl⟩))
          go_roundw
          case rel => exact ⟨k + 1, s1, p0, e1, f0, by omega, rfl, rfl, rfl, rfl, by go_num, n1, n2, hbr⟩
          case measure => simp [intOf]; omega
      · have heb : (e0 == 0) = false := by simpa using he
        by_cases hf : f0 = 0
        · have hfb : (f0 == 0) = true := by simpa using hf
          have n1 := Lib.hid (acc_skip HS.out he)
          have n2 := Lib.hid (NP.out hf)
          have C2' := Lib.hid (C2.out hf)
          clear NS NP he hf C2 HS HP C1
          go_wp2_with (first | (go_at_call 19; refine (C2'.out _).mono ?_; rintro e w4 ⟨rfl, b4⟩))
          go_roundw
          case rel => exact ⟨k + 1, s0, p1, e0, f1, by omega, rfl, rfl, rfl, rfl, by go_num, n1, n2, hbr.trans (b4.mono hbr.size)⟩
          case measure => simp [intOf]; omega
        · have hfb : (f0 == 0) = false := by simpa using hf
          have n1 := Lib.hid (acc_skip HS.out he)
          have n2 := Lib.hid (acc_skip HP.out hf)
          clear NS NP he hf C2 HS HP C1
          go_wp2_with fail
          go_roundw
          case rel => exact ⟨k + 1, s0, p0, e0, f0, by omega, rfl, rfl, rfl, rfl, by go_num, n1, n2, hbr⟩
          case measure => simp [intOf]; omega
    · have hkk : k = xs.length := by omega
      subst hkk
      have K1 := fun W => sum_calls a cap xs W hbig
      have K2 := fun W => prod_calls a cap xs W hbig
      rw [acc_end HS.out] at K1
      rw [acc_end HP.out] at K2
      have hC := Lib.hid hcr
      have L1 := Lib.hid K1
      have L2 := Lib.hid K2
      have hX := Lib.hid hx
      clear K1 K2 hcr hx HS HP
      go_wp2_with (first | (go_at_call 20; refine (L1.out _ hC.out hX.out).mono ?_; rintro e w' ⟨rfl, rfl⟩) | (go_at_call 21; refine (L2.out _ hC.out hX.out).mono ?_; rintro e w' ⟨rfl, rfl⟩))
      go_ret
      exact ⟨rfl, hbr⟩

theorem opened (H : Type) (enc : TypeId × Value → H) (W : World) (base : Nat) (args : Array Value) (ds : List (DataW H)) (p : List MemPlace)
    (hval : ∀ (j : Nat) t v, Try.f7.params[j]? = some t → args[j]? = some v → Value.okWide Try.prog W .any base t v)
    (hA : DataW.TrodAll enc Try.prog W 0 (fun _ => true) true Try.f7.params.toList args.toList ds p)
    (_hr : ∀ x ∈ DataW.weightsEach Try.prog Try.f7.params.toList ds, x ≤ reachBytes)
    (_hL : laidMetH Try.prog Rows.fixpSumsRow.laid W) :
    Calls Try.prog 7 args W fun e W' => e = .returned (.bool true) ∧ Below W.heap.size W W' := by
  rw [Try.params7] at hA hval
  obtain ⟨v0, vs0, d0, ds0, p0, q0, hargs, rfl, rfl, h0, r0⟩ := trodAll_cons hA
  obtain ⟨rfl, rfl, rfl⟩ := trodAll_nil r0
  obtain rfl : args = #[v0] := by cases args; simp_all
  obtain ⟨a, xs, cap, rfl, hat, hw, hl, hm, hd⟩ := open_row Try.underlying32 Try.underlying3 cells64 (hval 0 32 v0 rfl rfl) h0
  exact walk a cap xs W (by simp only [maxLen] at hm; omega) hat (fun x hx => i64_wf (hw x hx))
end Go.Proofs.Ytihjphfdgimmbaa.fixpSums
