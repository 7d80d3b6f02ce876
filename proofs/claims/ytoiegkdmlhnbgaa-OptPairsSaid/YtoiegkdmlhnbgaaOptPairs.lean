/- OptPairs: the walk, and the step from the law's arguments to it (printed by genpairs.py). -/
import Derived.Test.YtoiegkdmlhnbgaaOptLawBase
import Derived.Test.YtoiegkdmlhnbgaaOptLaws
namespace Go.Proofs.Ytoiegkdmlhnbgaa.optPairs
open Go.ChangeShapes Go.WideShapes Go.ChangeAt Go.RowKit Go.Proofs.Ytoiegkdmlhnbgaa.Bas Go.Proofs.Ytoiegkdmlhnbgaa.FixpM Go.Proofs.Ytoiegkdmlhnbgaa.FixpW Go.Proofs.Ytoiegkdmlhnbgaa.OptW

set_option maxHeartbeats 4000000 in
set_option maxRecDepth 100000 in
theorem walk (s p v d : Int) (w : World) (hd : I64 d) :
    Calls Try.prog 5 #[optV s p v d] w fun e w' => e = .returned (.bool true) ∧ Below w.heap.size w w' := by
  unfold optV
  have CA := fun W => value_calls true s p v d W hd
  have CB := fun W => value_calls false s p v d W hd
  have CC := fun W => value_calls true s (p + 1) v d W hd
  have CD := fun W => value_calls false s (p + 1) v d W hd
  obtain ⟨a, ea, hA⟩ : ∃ a ea, valueF true s p v d = (a, ea) := ⟨_, _, rfl⟩
  obtain ⟨b, eb, hB⟩ : ∃ b eb, valueF false s p v d = (b, eb) := ⟨_, _, rfl⟩
  obtain ⟨c, ec, hC⟩ : ∃ c ec, valueF true s (p + 1) v d = (c, ec) := ⟨_, _, rfl⟩
  obtain ⟨f, ef, hD⟩ : ∃ f ef, valueF false s (p + 1) v d = (f, ef) := ⟨_, _, rfl⟩
  rw [hA] at CA
  rw [hB] at CB
  rw [hC] at CC
  rw [hD] at CD
  have DA := Lib.hid CA
  have DB := Lib.hid CB
  have DC := Lib.hid CC
  have DD := Lib.hid CD
  have HA := Lib.hid hA
  have HB := Lib.hid hB
  have HC := Lib.hid hC
  have HD := Lib.hid hD
  have D0 := Lib.hid (fun W => wakes_calls W)
  clear CA CB CC CD hA hB hC hD hd
  go_enter Try.func5, Try.ntmps5
  have x0 : Box (w.alloc (.cells #[.int .i64 s, .int .i64 p, .int .i64 v, .int .i64 d] 23)) w.heap.size 23 #[.int .i64 s, .int .i64 p, .int .i64 v, .int .i64 d] := Box.new _ _ _
  have hB0 : Below w.heap.size w (w.alloc (.cells #[.int .i64 s, .int .i64 p, .int .i64 v, .int .i64 d] 23)) := (Below.refl _ _).alloc (Nat.le_refl _) _
  go_upto_region 1 with fail
  generalize (w.alloc (.cells #[.int .i64 s, .int .i64 p, .int .i64 v, .int .i64 d] 23)) = w0 at x0 hB0 ⊢
  by_cases hea : ea = 0
  · subst hea
    by_cases heb : eb = 0
    · subst heb
      have hab := pair_less HA.out HB.out
      have hs := marks s (valueF_ok HA.out).1
      have hp := marks p (valueF_ok HA.out).2.1
      have T1 : wrap64 (a - b) = p - s := by rw [hab]; unfold wrap64; omega
      clear hab
      by_cases hec : ec = 0
      · subst hec
        by_cases hef : ef = 0
        · subst hef
          obtain ⟨x, hx⟩ : ∃ x, x = c - a := ⟨_, rfl⟩
          obtain ⟨y, hy⟩ : ∃ y, y = b - f := ⟨_, rfl⟩
          have h1 := gap_step HA.out HC.out (show gapF true s (p + 1) = gapF true s p + 1 by unfold gapF; simp only [if_true]; omega)
          have h2 := gap_step HD.out HB.out (show gapF false s p = gapF false s (p + 1) + 1 by unfold gapF; simp only [Bool.false_eq_true, if_false]; omega)
          rw [← hx] at h1
          rw [← hy] at h2
          have T2 : wrap64 (c - a) = x := by rw [← hx]; unfold wrap64; omega
          have T3 : wrap64 (b - f) = y := by rw [← hy]; unfold wrap64; omega
          obtain ⟨x1', x2'⟩ := h1
          obtain ⟨y1', y2'⟩ := h2
          clear hx hy HA HB HC HD
          go_wp2_with (first | (go_at_call 7; refine (D0.out _).mono ?_; rintro e w1 ⟨rfl, b1⟩; have x1 := x0.keep b1; have e0 := x1.cell 0; have e1 := x1.cell 1; have e2 := x1.cell 2; have e3 := x1.cell 3; have hB1 := hB0.trans (b1.mono hB0.size); clear x0 b1 hB0) | (go_at_call 8; refine (DA.out _).mono ?_; rintro e w2 ⟨rfl, b2⟩; have x2 := x1.keep b2; clear e0 e1 e2 e3; have e0 := x2.cell 0; have e1 := x2.cell 1; have e2 := x2.cell 2; have e3 := x2.cell 3; have hB2 := hB1.trans (b2.mono hB1.size); clear x1 b2 hB1 DA) | (go_at_call 8; refine (DB.out _).mono ?_; rintro e w3 ⟨rfl, b3⟩; have x3 := x2.keep b3; clear e0 e1 e2 e3; have e0 := x3.cell 0; have e1 := x3.cell 1; have e2 := x3.cell 2; have e3 := x3.cell 3; have hB3 := hB2.trans (b3.mono hB2.size); clear x2 b3 hB2 DB) | (go_at_call 8; refine (DC.out _).mono ?_; rintro e w4 ⟨rfl, b4⟩; have x4 := x3.keep b4; clear e0 e1 e2 e3; have e0 := x4.cell 0; have e1 := x4.cell 1; have e2 := x4.cell 2; have e3 := x4.cell 3; have hB4 := hB3.trans (b4.mono hB3.size); clear x3 b4 hB3 DC) | (go_at_call 8; refine (DD.out _).mono ?_; rintro e w5 ⟨rfl, b5⟩; have x5 := x4.keep b5; clear e0 e1 e2 e3; have e0 := x5.cell 0; have e1 := x5.cell 1; have e2 := x5.cell 2; have e3 := x5.cell 3; have hB5 := hB4.trans (b5.mono hB4.size); clear x4 b5 hB4 DD))
          go_ret
          exact ⟨rfl, hB5⟩
        · have hb : (ef != 0) = true := by simpa using hef
          clear HA HB HC HD hef
          go_wp2_with (first | (go_at_call 7; refine (D0.out _).mono ?_; rintro e w1 ⟨rfl, b1⟩; have x1 := x0.keep b1; have e0 := x1.cell 0; have e1 := x1.cell 1; have e2 := x1.cell 2; have e3 := x1.cell 3; have hB1 := hB0.trans (b1.mono hB0.size); clear x0 b1 hB0) | (go_at_call 8; refine (DA.out _).mono ?_; rintro e w2 ⟨rfl, b2⟩; have x2 := x1.keep b2; clear e0 e1 e2 e3; have e0 := x2.cell 0; have e1 := x2.cell 1; have e2 := x2.cell 2; have e3 := x2.cell 3; have hB2 := hB1.trans (b2.mono hB1.size); clear x1 b2 hB1 DA) | (go_at_call 8; refine (DB.out _).mono ?_; rintro e w3 ⟨rfl, b3⟩; have x3 := x2.keep b3; clear e0 e1 e2 e3; have e0 := x3.cell 0; have e1 := x3.cell 1; have e2 := x3.cell 2; have e3 := x3.cell 3; have hB3 := hB2.trans (b3.mono hB2.size); clear x2 b3 hB2 DB) | (go_at_call 8; refine (DC.out _).mono ?_; rintro e w4 ⟨rfl, b4⟩; have x4 := x3.keep b4; clear e0 e1 e2 e3; have e0 := x4.cell 0; have e1 := x4.cell 1; have e2 := x4.cell 2; have e3 := x4.cell 3; have hB4 := hB3.trans (b4.mono hB3.size); clear x3 b4 hB3 DC) | (go_at_call 8; refine (DD.out _).mono ?_; rintro e w5 ⟨rfl, b5⟩; have x5 := x4.keep b5; clear e0 e1 e2 e3; have e0 := x5.cell 0; have e1 := x5.cell 1; have e2 := x5.cell 2; have e3 := x5.cell 3; have hB5 := hB4.trans (b5.mono hB4.size); clear x4 b5 hB4 DD))
          go_ret
          exact ⟨rfl, hB5⟩
      · have hb : (ec != 0) = true := by simpa using hec
        clear HA HB HC HD hec
        go_wp2_with (first | (go_at_call 7; refine (D0.out _).mono ?_; rintro e w1 ⟨rfl, b1⟩; have x1 := x0.keep b1; have e0 := x1.cell 0; have e1 := x1.cell 1; have e2 := x1.cell 2; have e3 := x1.cell 3; have hB1 := hB0.trans (b1.mono hB0.size); clear x0 b1 hB0) | (go_at_call 8; refine (DA.out _).mono ?_; rintro e w2 ⟨rfl, b2⟩; have x2 := x1.keep b2; clear e0 e1 e2 e3; have e0 := x2.cell 0; have e1 := x2.cell 1; have e2 := x2.cell 2; have e3 := x2.cell 3; have hB2 := hB1.trans (b2.mono hB1.size); clear x1 b2 hB1 DA) | (go_at_call 8; refine (DB.out _).mono ?_; rintro e w3 ⟨rfl, b3⟩; have x3 := x2.keep b3; clear e0 e1 e2 e3; have e0 := x3.cell 0; have e1 := x3.cell 1; have e2 := x3.cell 2; have e3 := x3.cell 3; have hB3 := hB2.trans (b3.mono hB2.size); clear x2 b3 hB2 DB) | (go_at_call 8; refine (DC.out _).mono ?_; rintro e w4 ⟨rfl, b4⟩; have x4 := x3.keep b4; clear e0 e1 e2 e3; have e0 := x4.cell 0; have e1 := x4.cell 1; have e2 := x4.cell 2; have e3 := x4.cell 3; have hB4 := hB3.trans (b4.mono hB3.size); clear x3 b4 hB3 DC) | (go_at_call 8; refine (DD.out _).mono ?_; rintro e w5 ⟨rfl, b5⟩; have x5 := x4.keep b5; clear e0 e1 e2 e3; have e0 := x5.cell 0; have e1 := x5.cell 1; have e2 := x5.cell 2; have e3 := x5.cell 3; have hB5 := hB4.trans (b5.mono hB4.size); clear x4 b5 hB4 DD))
        go_ret
        exact ⟨rfl, hB5⟩
    · have hb : (eb != 0) = true := by simpa using heb
      clear HA HB HC HD heb
      go_wp2_with (first | (go_at_call 7; refine (D0.out _).mono ?_; rintro e w1 ⟨rfl, b1⟩; have x1 := x0.keep b1; have e0 := x1.cell 0; have e1 := x1.cell 1; have e2 := x1.cell 2; have e3 := x1.cell 3; have hB1 := hB0.trans (b1.mono hB0.size); clear x0 b1 hB0) | (go_at_call 8; refine (DA.out _).mono ?_; rintro e w2 ⟨rfl, b2⟩; have x2 := x1.keep b2; clear e0 e1 e2 e3; have e0 := x2.cell 0; have e1 := x2.cell 1; have e2 := x2.cell 2; have e3 := x2.cell 3; have hB2 := hB1.trans (b2.mono hB1.size); clear x1 b2 hB1 DA) | (go_at_call 8; refine (DB.out _).mono ?_; rintro e w3 ⟨rfl, b3⟩; have x3 := x2.keep b3; clear e0 e1 e2 e3; have e0 := x3.cell 0; have e1 := x3.cell 1; have e2 := x3.cell 2; have e3 := x3.cell 3; have hB3 := hB2.trans (b3.mono hB2.size); clear x2 b3 hB2 DB) | (go_at_call 8; refine (DC.out _).mono ?_; rintro e w4 ⟨rfl, b4⟩; have x4 := x3.keep b4; clear e0 e1 e2 e3; have e0 := x4.cell 0; have e1 := x4.cell 1; have e2 := x4.cell 2; have e3 := x4.cell 3; have hB4 := hB3.trans (b4.mono hB3.size); clear x3 b4 hB3 DC) | (go_at_call 8; refine (DD.out _).mono ?_; rintro e w5 ⟨rfl, b5⟩; have x5 := x4.keep b5; clear e0 e1 e2 e3; have e0 := x5.cell 0; have e1 := x5.cell 1; have e2 := x5.cell 2; have e3 := x5.cell 3; have hB5 := hB4.trans (b5.mono hB4.size); clear x4 b5 hB4 DD))
      go_ret
      exact ⟨rfl, hB3⟩
  · have hb : (ea != 0) = true := by simpa using hea
    clear HA HB HC HD hea
    go_wp2_with (first | (go_at_call 7; refine (D0.out _).mono ?_; rintro e w1 ⟨rfl, b1⟩; have x1 := x0.keep b1; have e0 := x1.cell 0; have e1 := x1.cell 1; have e2 := x1.cell 2; have e3 := x1.cell 3; have hB1 := hB0.trans (b1.mono hB0.size); clear x0 b1 hB0) | (go_at_call 8; refine (DA.out _).mono ?_; rintro e w2 ⟨rfl, b2⟩; have x2 := x1.keep b2; clear e0 e1 e2 e3; have e0 := x2.cell 0; have e1 := x2.cell 1; have e2 := x2.cell 2; have e3 := x2.cell 3; have hB2 := hB1.trans (b2.mono hB1.size); clear x1 b2 hB1 DA) | (go_at_call 8; refine (DB.out _).mono ?_; rintro e w3 ⟨rfl, b3⟩; have x3 := x2.keep b3; clear e0 e1 e2 e3; have e0 := x3.cell 0; have e1 := x3.cell 1; have e2 := x3.cell 2; have e3 := x3.cell 3; have hB3 := hB2.trans (b3.mono hB2.size); clear x2 b3 hB2 DB) | (go_at_call 8; refine (DC.out _).mono ?_; rintro e w4 ⟨rfl, b4⟩; have x4 := x3.keep b4; clear e0 e1 e2 e3; have e0 := x4.cell 0; have e1 := x4.cell 1; have e2 := x4.cell 2; have e3 := x4.cell 3; have hB4 := hB3.trans (b4.mono hB3.size); clear x3 b4 hB3 DC) | (go_at_call 8; refine (DD.out _).mono ?_; rintro e w5 ⟨rfl, b5⟩; have x5 := x4.keep b5; clear e0 e1 e2 e3; have e0 := x5.cell 0; have e1 := x5.cell 1; have e2 := x5.cell 2; have e3 := x5.cell 3; have hB5 := hB4.trans (b5.mono hB4.size); clear x4 b5 hB4 DD))
    go_ret
    exact ⟨rfl, hB3⟩

theorem opened (H : Type) (enc : TypeId × Value → H) (W : World) (base : Nat) (args : Array Value) (ds : List (DataW H)) (p : List MemPlace)
    (hval : ∀ (j : Nat) t v, Try.f5.params[j]? = some t → args[j]? = some v → Value.okWide Try.prog W .any base t v)
    (hA : DataW.TrodAll enc Try.prog W 0 (fun _ => true) true Try.f5.params.toList args.toList ds p)
    (_hr : ∀ x ∈ DataW.weightsEach Try.prog Try.f5.params.toList ds, x ≤ reachBytes)
    (_hL : laidMetH Try.prog Rows.optPairsRow.laid W) :
    Calls Try.prog 5 args W fun e W' => e = .returned (.bool true) ∧ Below W.heap.size W W' := by
  rw [Try.params5] at hA hval
  obtain ⟨v0, vs0, d0, ds0, p0, q0, hargs, rfl, rfl, h0, r0⟩ := trodAll_cons hA
  obtain ⟨rfl, rfl, rfl⟩ := trodAll_nil r0
  obtain rfl : args = #[v0] := by cases args; simp_all
  obtain ⟨s, p, v, d, rfl, _, _, _, hd⟩ := open_opt (hval 0 23 v0 rfl rfl) h0
  exact walk s p v d W hd
end Go.Proofs.Ytoiegkdmlhnbgaa.optPairs
