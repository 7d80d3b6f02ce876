/- OptRises: the walk, and the step from the law's arguments to it (printed by genrises.py). -/
import Derived.Test.YtoiegkdmlhnbgaaOptLawBase
import Derived.Test.YtoiegkdmlhnbgaaOptLaws2
namespace Go.Proofs.Ytoiegkdmlhnbgaa.optRises
open Go.ChangeShapes Go.WideShapes Go.ChangeAt Go.RowKit Go.Proofs.Ytoiegkdmlhnbgaa.Bas Go.Proofs.Ytoiegkdmlhnbgaa.FixpM Go.Proofs.Ytoiegkdmlhnbgaa.FixpW Go.Proofs.Ytoiegkdmlhnbgaa.OptW

set_option maxHeartbeats 4000000 in
set_option maxRecDepth 100000 in
theorem walk_no (s p v d ms mp mv md : Int) (w : World) (h : mp < 0 ∨ mv < 0 ∨ md < 0 ∨ 100000000000000 < mp ∨ 100000000000000 < mv ∨ 100000 < md ∨ 100000 < d) :
    Calls Try.prog 4 #[optV s p v d, optV ms mp mv md] w fun e w' => e = .returned (.bool true) ∧ Below w.heap.size w w' := by
  unfold optV
  have D0 := Lib.hid (fun W => wakes_calls W)
  go_enter Try.func4, Try.ntmps4
  have x0 : Box ((w.alloc (.cells #[.int .i64 s, .int .i64 p, .int .i64 v, .int .i64 d] 23)).alloc (.cells #[.int .i64 ms, .int .i64 mp, .int .i64 mv, .int .i64 md] 23)) w.heap.size 23 #[.int .i64 s, .int .i64 p, .int .i64 v, .int .i64 d] := (Box.new w _ _).alloc _
  have y0 : Box ((w.alloc (.cells #[.int .i64 s, .int .i64 p, .int .i64 v, .int .i64 d] 23)).alloc (.cells #[.int .i64 ms, .int .i64 mp, .int .i64 mv, .int .i64 md] 23)) (w.heap.size + 1) 23 #[.int .i64 ms, .int .i64 mp, .int .i64 mv, .int .i64 md] := by
    have := Box.new (w.alloc (.cells #[.int .i64 s, .int .i64 p, .int .i64 v, .int .i64 d] 23)) 23 #[.int .i64 ms, .int .i64 mp, .int .i64 mv, .int .i64 md]
    simpa using this
  have hB0 : Below w.heap.size w ((w.alloc (.cells #[.int .i64 s, .int .i64 p, .int .i64 v, .int .i64 d] 23)).alloc (.cells #[.int .i64 ms, .int .i64 mp, .int .i64 mv, .int .i64 md] 23)) := ((Below.refl _ _).alloc (Nat.le_refl _) _).alloc (by simp) _
  go_upto_region 1 with fail
  generalize ((w.alloc (.cells #[.int .i64 s, .int .i64 p, .int .i64 v, .int .i64 d] 23)).alloc (.cells #[.int .i64 ms, .int .i64 mp, .int .i64 mv, .int .i64 md] 23)) = w0 at x0 y0 hB0 ⊢
  by_cases h0 : mp < 0
  · clear h
    go_wp2_with (first | (go_at_call 7; refine (D0.out _).mono ?_; rintro e w1 ⟨rfl, b1⟩; have x1 := x0.keep b1; have y1 := y0.keep b1; have e0 := x1.cell 0; have e1 := x1.cell 1; have e2 := x1.cell 2; have e3 := x1.cell 3; have f1 := y1.cell 1; have f2 := y1.cell 2; have f3 := y1.cell 3; have hB1 := hB0.trans (b1.mono hB0.size); clear x0 y0 b1 hB0))
    go_ret
    exact ⟨rfl, hB1⟩
  · skip
    by_cases h1 : mv < 0
    · clear h
      go_wp2_with (first | (go_at_call 7; refine (D0.out _).mono ?_; rintro e w1 ⟨rfl, b1⟩; have x1 := x0.keep b1; have y1 := y0.keep b1; have e0 := x1.cell 0; have e1 := x1.cell 1; have e2 := x1.cell 2; have e3 := x1.cell 3; have f1 := y1.cell 1; have f2 := y1.cell 2; have f3 := y1.cell 3; have hB1 := hB0.trans (b1.mono hB0.size); clear x0 y0 b1 hB0))
      go_ret
      exact ⟨rfl, hB1⟩
    · skip
      by_cases h2 : md < 0
      · clear h
        go_wp2_with (first | (go_at_call 7; refine (D0.out _).mono ?_; rintro e w1 ⟨rfl, b1⟩; have x1 := x0.keep b1; have y1 := y0.keep b1; have e0 := x1.cell 0; have e1 := x1.cell 1; have e2 := x1.cell 2; have e3 := x1.cell 3; have f1 := y1.cell 1; have f2 := y1.cell 2; have f3 := y1.cell 3; have hB1 := hB0.trans (b1.mono hB0.size); clear x0 y0 b1 hB0))
        go_ret
        exact ⟨rfl, hB1⟩
      · skip
        by_cases h3 : 100000000000000 < mp
        · clear h
          go_wp2_with (first | (go_at_call 7; refine (D0.out _).mono ?_; rintro e w1 ⟨rfl, b1⟩; have x1 := x0.keep b1; have y1 := y0.keep b1; have e0 := x1.cell 0; have e1 := x1.cell 1; have e2 := x1.cell 2; have e3 := x1.cell 3; have f1 := y1.cell 1; have f2 := y1.cell 2; have f3 := y1.cell 3; have hB1 := hB0.trans (b1.mono hB0.size); clear x0 y0 b1 hB0))
          go_ret
          exact ⟨rfl, hB1⟩
        · skip
          by_cases h4 : 100000000000000 < mv
          · clear h
            go_wp2_with (first | (go_at_call 7; refine (D0.out _).mono ?_; rintro e w1 ⟨rfl, b1⟩; have x1 := x0.keep b1; have y1 := y0.keep b1; have e0 := x1.cell 0; have e1 := x1.cell 1; have e2 := x1.cell 2; have e3 := x1.cell 3; have f1 := y1.cell 1; have f2 := y1.cell 2; have f3 := y1.cell 3; have hB1 := hB0.trans (b1.mono hB0.size); clear x0 y0 b1 hB0))
            go_ret
            exact ⟨rfl, hB1⟩
          · skip
            by_cases h5 : 100000 < md
            · clear h
              go_wp2_with (first | (go_at_call 7; refine (D0.out _).mono ?_; rintro e w1 ⟨rfl, b1⟩; have x1 := x0.keep b1; have y1 := y0.keep b1; have e0 := x1.cell 0; have e1 := x1.cell 1; have e2 := x1.cell 2; have e3 := x1.cell 3; have f1 := y1.cell 1; have f2 := y1.cell 2; have f3 := y1.cell 3; have hB1 := hB0.trans (b1.mono hB0.size); clear x0 y0 b1 hB0))
              go_ret
              exact ⟨rfl, hB1⟩
            · skip
              by_cases h6 : 100000 < d
              · clear h
                go_wp2_with (first | (go_at_call 7; refine (D0.out _).mono ?_; rintro e w1 ⟨rfl, b1⟩; have x1 := x0.keep b1; have y1 := y0.keep b1; have e0 := x1.cell 0; have e1 := x1.cell 1; have e2 := x1.cell 2; have e3 := x1.cell 3; have f1 := y1.cell 1; have f2 := y1.cell 2; have f3 := y1.cell 3; have hB1 := hB0.trans (b1.mono hB0.size); clear x0 y0 b1 hB0))
                go_ret
                exact ⟨rfl, hB1⟩
              · skip
                omega

set_option maxHeartbeats 16000000 in
set_option maxRecDepth 100000 in
theorem walk_yes (s p v d ms mp mv md : Int) (w : World) (hd : I64 d) (k0 : ¬ mp < 0) (k1 : ¬ mv < 0) (k2 : ¬ md < 0) (k3 : ¬ 100000000000000 < mp) (k4 : ¬ 100000000000000 < mv) (k5 : ¬ 100000 < md) (k6 : ¬ 100000 < d) :
    Calls Try.prog 4 #[optV s p v d, optV ms mp mv md] w fun e w' => e = .returned (.bool true) ∧ Below w.heap.size w w' := by
  unfold optV
  have D0 := Lib.hid (fun W => wakes_calls W)
  go_enter Try.func4, Try.ntmps4
  have x0 : Box ((w.alloc (.cells #[.int .i64 s, .int .i64 p, .int .i64 v, .int .i64 d] 23)).alloc (.cells #[.int .i64 ms, .int .i64 mp, .int .i64 mv, .int .i64 md] 23)) w.heap.size 23 #[.int .i64 s, .int .i64 p, .int .i64 v, .int .i64 d] := (Box.new w _ _).alloc _
  have y0 : Box ((w.alloc (.cells #[.int .i64 s, .int .i64 p, .int .i64 v, .int .i64 d] 23)).alloc (.cells #[.int .i64 ms, .int .i64 mp, .int .i64 mv, .int .i64 md] 23)) (w.heap.size + 1) 23 #[.int .i64 ms, .int .i64 mp, .int .i64 mv, .int .i64 md] := by
    have := Box.new (w.alloc (.cells #[.int .i64 s, .int .i64 p, .int .i64 v, .int .i64 d] 23)) 23 #[.int .i64 ms, .int .i64 mp, .int .i64 mv, .int .i64 md]
    simpa using this
  have hB0 : Below w.heap.size w ((w.alloc (.cells #[.int .i64 s, .int .i64 p, .int .i64 v, .int .i64 d] 23)).alloc (.cells #[.int .i64 ms, .int .i64 mp, .int .i64 mv, .int .i64 md] 23)) := ((Below.refl _ _).alloc (Nat.le_refl _) _).alloc (by simp) _
  go_upto_region 1 with fail
  generalize ((w.alloc (.cells #[.int .i64 s, .int .i64 p, .int .i64 v, .int .i64 d] 23)).alloc (.cells #[.int .i64 ms, .int .i64 mp, .int .i64 mv, .int .i64 md] 23)) = w0 at x0 y0 hB0 ⊢
  have c0 := decide_eq_false k0
  have c1 := decide_eq_false k1
  have c2 := decide_eq_false k2
  have c3 := decide_eq_false k3
  have c4 := decide_eq_false k4
  have c5 := decide_eq_false k5
  have c6 := decide_eq_false k6
  go_wp2_with (first | (go_at_call 7; refine (D0.out _).mono ?_; rintro e w1 ⟨rfl, b1⟩; have x1 := x0.keep b1; have y1 := y0.keep b1; have e0 := x1.cell 0; have e1 := x1.cell 1; have e2 := x1.cell 2; have e3 := x1.cell 3; have f1 := y1.cell 1; have f2 := y1.cell 2; have f3 := y1.cell 3; have hB1 := hB0.trans (b1.mono hB0.size); clear x0 y0 b1 hB0))
  clear e0 e1 e2 e3 f1 f2 f3 c0 c1 c2 c3 c4 c5 c6
  go_loopw [5] (fun i wr => ∃ k : Nat, k ≤ 2 ∧ i = .int .i64 k ∧ Box wr w.heap.size 23 #[.int .i64 s, .int .i64 p, .int .i64 v, .int .i64 d] ∧ Box wr (w.heap.size + 1) 23 #[.int .i64 ms, .int .i64 mp, .int .i64 mv, .int .i64 md] ∧ Below w.heap.size w wr) (fun i _ => 2 - (intOf i).toNat)
  case atStart => exact ⟨0, by omega, rfl, x1, y1, hB1⟩
  case round =>
    clear x1 y1 hB1
    obtain ⟨k, hk, rfl, x1, y1, hB1⟩ := hrel
    
    have e0 := x1.cell 0
    have e1 := x1.cell 1
    have e2 := x1.cell 2
    have e3 := x1.cell 3
    have f1 := y1.cell 1
    have f2 := y1.cell 2
    have f3 := y1.cell 3
    have hk3 : k = 0 ∨ k = 1 ∨ k = 2 := by omega
    clear hk
    rcases hk3 with rfl | rfl | rfl
    · -- true
        have CA := fun W => value_calls true s p v d W hd
        obtain ⟨a, ea, hA⟩ : ∃ a ea, valueF true s p v d = (a, ea) := ⟨_, _, rfl⟩
        rw [hA] at CA
        have DA := Lib.hid CA
        clear CA
        by_cases hea : ea = 0
        · subst hea
          obtain ⟨ms1, mp1, mv1, _⟩ := valueF_ok hA
          have hpm := marks p mp1
          have hvm := marks v mv1
          have hI := value_inner (call := true) ms1 mp1 mv1
          have hin := inner_le hA
          obtain ⟨i0, hi0⟩ : ∃ i0, i0 = max (gapF true s p) 0 := ⟨_, rfl⟩
          rw [← hi0] at hI hin
          have CI := fun W => value_calls true s p v 0 W (by unfold I64; omega)
          rw [hI] at CI
          have DI := Lib.hid CI
          have CB := fun W => value_calls true s (p + mp) v d W hd
          have CC := fun W => value_calls true s p (v + mv) d W hd
          have CD := fun W => value_calls true s p v (max d 0 + md) W (by unfold I64; omega)
          obtain ⟨b, eb, hB⟩ : ∃ a ea, valueF true s (p + mp) v d = (a, ea) := ⟨_, _, rfl⟩
          obtain ⟨c, ec, hC⟩ : ∃ a ea, valueF true s p (v + mv) d = (a, ea) := ⟨_, _, rfl⟩
          obtain ⟨f, ef, hD⟩ : ∃ a ea, valueF true s p v (max d 0 + md) = (a, ea) := ⟨_, _, rfl⟩
          rw [hB] at CB
          rw [hC] at CC
          rw [hD] at CD
          have DB := Lib.hid CB
          have DC := Lib.hid CC
          have DD := Lib.hid CD
          have hb : eb = 0 → ¬ b < a := fun h => by
            subst h
            have := gap_rises hA hB (by unfold gapF; simp only [if_true]; omega)
            omega
          have hc : ec = 0 → ¬ c < a := fun h => by
            subst h
            have := time_rises hA hC (by omega) (by omega)
            omega
          have hf : ef = 0 → ¬ f < a := fun h => by
            subst h
            have := time_rises hA hD (by omega) (by omega)
            omega
          have h1 : ¬ a < i0 := by omega
          have HIN := Lib.hid hin.2
          have HB' := Lib.hid hb
          have HC' := Lib.hid hc
          have HF' := Lib.hid hf
          clear CI CB CC CD hb hc hf hA hB hC hD hI hi0 hin
          have hdz : d ≤ 0 → a = i0 := HIN.out
          go_upto_region 12 with (first | (go_at_call 8; refine (DA.out _).mono ?_; rintro e w2 ⟨rfl, b2⟩; have x2 := x1.keep b2; have y2 := y1.keep b2; clear e0 e1 e2 e3 f1 f2 f3; have e0 := x2.cell 0; have e1 := x2.cell 1; have e2 := x2.cell 2; have e3 := x2.cell 3; have f1 := y2.cell 1; have f2 := y2.cell 2; have f3 := y2.cell 3; have hB2 := hB1.trans (b2.mono hB1.size); clear x1 y1 b2 hB1 DA) | (go_at_call 8; refine (DI.out _).mono ?_; rintro e w3 ⟨rfl, b3⟩; have x3 := x2.keep b3; have y3 := y2.keep b3; clear e0 e1 e2 e3 f1 f2 f3; have e0 := x3.cell 0; have e1 := x3.cell 1; have e2 := x3.cell 2; have e3 := x3.cell 3; have f1 := y3.cell 1; have f2 := y3.cell 2; have f3 := y3.cell 3; have hB3 := hB2.trans (b3.mono hB2.size); clear x2 y2 b3 hB2 DI))
          go_cut [95] from 47 to 177 (fun x wc => x = .bool false ∧ w3 = wc)
          case first =>
            by_cases hd0 : d ≤ 0
            · have hai := hdz hd0
              subst hai
              clear hdz
              go_wp2_with fail
              go_meet
              case rel => first | exact ⟨rfl, rfl⟩ | exact ⟨by congr 1; exact decide_eq_false (by omega), rfl⟩
            · clear hdz
              go_wp2_with fail
              go_meet
              case rel => first | exact ⟨rfl, rfl⟩ | exact ⟨by congr 1; exact decide_eq_false (by omega), rfl⟩
          case rest =>
            obtain ⟨rfl, rfl⟩ := hcut
            clear hdz h1
            go_upto_region 15 with (first | (go_at_call 8; refine (DB.out _).mono ?_; rintro e w4 ⟨rfl, b4⟩; have x4 := x3.keep b4; have y4 := y3.keep b4; clear e0 e1 e2 e3 f1 f2 f3; have e0 := x4.cell 0; have e1 := x4.cell 1; have e2 := x4.cell 2; have e3 := x4.cell 3; have f1 := y4.cell 1; have f2 := y4.cell 2; have f3 := y4.cell 3; have hB4 := hB3.trans (b4.mono hB3.size); clear x3 y3 b4 hB3 DB))
            go_cut [130] from 47 to 177 (fun x wc => x = .bool false ∧ w4 = wc)
            case first =>
              by_cases heb : eb = 0
              · have geb := HB'.out heb
                have zeb : (eb == 0) = true := by simpa using heb
                clear heb
                go_wp2_with fail
                go_meet
                case rel => first | exact ⟨rfl, rfl⟩ | exact ⟨by congr 1; exact decide_eq_false (by omega), rfl⟩
              · have zeb : (eb == 0) = false := by simpa using heb
                clear heb
                go_wp2_with fail
                go_meet
                case rel => first | exact ⟨rfl, rfl⟩ | exact ⟨by congr 1; exact decide_eq_false (by omega), rfl⟩
            case rest =>
              obtain ⟨rfl, rfl⟩ := hcut
              go_upto_region 18 with (first | (go_at_call 8; refine (DC.out _).mono ?_; rintro e w5 ⟨rfl, b5⟩; have x5 := x4.keep b5; have y5 := y4.keep b5; clear e0 e1 e2 e3 f1 f2 f3; have e0 := x5.cell 0; have e1 := x5.cell 1; have e2 := x5.cell 2; have e3 := x5.cell 3; have f1 := y5.cell 1; have f2 := y5.cell 2; have f3 := y5.cell 3; have hB5 := hB4.trans (b5.mono hB4.size); clear x4 y4 b5 hB4 DC))
              go_cut [153] from 47 to 177 (fun x wc => x = .bool false ∧ w5 = wc)
              case first =>
                by_cases hec : ec = 0
                · have gec := HC'.out hec
                  have zec : (ec == 0) = true := by simpa using hec
                  clear hec
                  go_wp2_with fail
                  go_meet
                  case rel => first | exact ⟨rfl, rfl⟩ | exact ⟨by congr 1; exact decide_eq_false (by omega), rfl⟩
                · have zec : (ec == 0) = false := by simpa using hec
                  clear hec
                  go_wp2_with fail
                  go_meet
                  case rel => first | exact ⟨rfl, rfl⟩ | exact ⟨by congr 1; exact decide_eq_false (by omega), rfl⟩
              case rest =>
                obtain ⟨rfl, rfl⟩ := hcut
                go_upto_region 21 with (first | (go_at_call 8; refine (DD.out _).mono ?_; rintro e w6 ⟨rfl, b6⟩; have x6 := x5.keep b6; have y6 := y5.keep b6; clear e0 e1 e2 e3 f1 f2 f3; have e0 := x6.cell 0; have e1 := x6.cell 1; have e2 := x6.cell 2; have e3 := x6.cell 3; have f1 := y6.cell 1; have f2 := y6.cell 2; have f3 := y6.cell 3; have hB6 := hB5.trans (b6.mono hB5.size); clear x5 y5 b6 hB5 DD))
                go_cut [177] from 47 to 177 (fun x wc => x = .bool false ∧ w6 = wc)
                case first =>
                  by_cases hef : ef = 0
                  · have gef := HF'.out hef
                    have zef : (ef == 0) = true := by simpa using hef
                    clear hef
                    go_wp2_with fail
                    go_meet
                    case rel => first | exact ⟨rfl, rfl⟩ | exact ⟨by congr 1; exact decide_eq_false (by omega), rfl⟩
                  · have zef : (ef == 0) = false := by simpa using hef
                    clear hef
                    go_wp2_with fail
                    go_meet
                    case rel => first | exact ⟨rfl, rfl⟩ | exact ⟨by congr 1; exact decide_eq_false (by omega), rfl⟩
                case rest =>
                  obtain ⟨rfl, rfl⟩ := hcut
                  go_wp2_with fail
                  go_roundw
                  case rel => exact ⟨1, by omega, rfl, x6, y6, hB6⟩
                  case measure => simp [intOf]
        · have hb : (ea != 0) = true := by simpa using hea
          clear hA hea
          go_wp2_with (first | (go_at_call 8; refine (DA.out _).mono ?_; rintro e w2 ⟨rfl, b2⟩; have x2 := x1.keep b2; have y2 := y1.keep b2; clear e0 e1 e2 e3 f1 f2 f3; have e0 := x2.cell 0; have e1 := x2.cell 1; have e2 := x2.cell 2; have e3 := x2.cell 3; have f1 := y2.cell 1; have f2 := y2.cell 2; have f3 := y2.cell 3; have hB2 := hB1.trans (b2.mono hB1.size); clear x1 y1 b2 hB1 DA))
          go_roundw
          case rel => exact ⟨1, by omega, rfl, x2, y2, hB2⟩
          case measure => simp [intOf]
    · -- false
        have CA := fun W => value_calls false s p v d W hd
        obtain ⟨a, ea, hA⟩ : ∃ a ea, valueF false s p v d = (a, ea) := ⟨_, _, rfl⟩
        rw [hA] at CA
        have DA := Lib.hid CA
        clear CA
        by_cases hea : ea = 0
        · subst hea
          obtain ⟨ms1, mp1, mv1, _⟩ := valueF_ok hA
          have hpm := marks p mp1
          have hvm := marks v mv1
          have hI := value_inner (call := false) ms1 mp1 mv1
          have hin := inner_le hA
          obtain ⟨i0, hi0⟩ : ∃ i0, i0 = max (gapF false s p) 0 := ⟨_, rfl⟩
          rw [← hi0] at hI hin
          have CI := fun W => value_calls false s p v 0 W (by unfold I64; omega)
          rw [hI] at CI
          have DI := Lib.hid CI
          have CB := fun W => value_calls false s (p + mp) v d W hd
          have CC := fun W => value_calls false s p (v + mv) d W hd
          have CD := fun W => value_calls false s p v (max d 0 + md) W (by unfold I64; omega)
          obtain ⟨b, eb, hB⟩ : ∃ a ea, valueF false s (p + mp) v d = (a, ea) := ⟨_, _, rfl⟩
          obtain ⟨c, ec, hC⟩ : ∃ a ea, valueF false s p (v + mv) d = (a, ea) := ⟨_, _, rfl⟩
          obtain ⟨f, ef, hD⟩ : ∃ a ea, valueF false s p v (max d 0 + md) = (a, ea) := ⟨_, _, rfl⟩
          rw [hB] at CB
          rw [hC] at CC
          rw [hD] at CD
          have DB := Lib.hid CB
          have DC := Lib.hid CC
          have DD := Lib.hid CD
          have hb : eb = 0 → ¬ a < b := fun h => by
            subst h
            have := gap_rises hB hA (by unfold gapF; simp only [Bool.false_eq_true, if_false]; omega)
            omega
          have hc : ec = 0 → ¬ c < a := fun h => by
            subst h
            have := time_rises hA hC (by omega) (by omega)
            omega
          have hf : ef = 0 → ¬ f < a := fun h => by
            subst h
            have := time_rises hA hD (by omega) (by omega)
            omega
          have h1 : ¬ a < i0 := by omega
          have HIN := Lib.hid hin.2
          have HB' := Lib.hid hb
          have HC' := Lib.hid hc
          have HF' := Lib.hid hf
          clear CI CB CC CD hb hc hf hA hB hC hD hI hi0 hin
          have hdz : d ≤ 0 → a = i0 := HIN.out
          go_upto_region 12 with (first | (go_at_call 8; refine (DA.out _).mono ?_; rintro e w2 ⟨rfl, b2⟩; have x2 := x1.keep b2; have y2 := y1.keep b2; clear e0 e1 e2 e3 f1 f2 f3; have e0 := x2.cell 0; have e1 := x2.cell 1; have e2 := x2.cell 2; have e3 := x2.cell 3; have f1 := y2.cell 1; have f2 := y2.cell 2; have f3 := y2.cell 3; have hB2 := hB1.trans (b2.mono hB1.size); clear x1 y1 b2 hB1 DA) | (go_at_call 8; refine (DI.out _).mono ?_; rintro e w3 ⟨rfl, b3⟩; have x3 := x2.keep b3; have y3 := y2.keep b3; clear e0 e1 e2 e3 f1 f2 f3; have e0 := x3.cell 0; have e1 := x3.cell 1; have e2 := x3.cell 2; have e3 := x3.cell 3; have f1 := y3.cell 1; have f2 := y3.cell 2; have f3 := y3.cell 3; have hB3 := hB2.trans (b3.mono hB2.size); clear x2 y2 b3 hB2 DI))
          go_cut [95] from 47 to 177 (fun x wc => x = .bool false ∧ w3 = wc)
          case first =>
            by_cases hd0 : d ≤ 0
            · have hai := hdz hd0
              subst hai
              clear hdz
              go_wp2_with fail
              go_meet
              case rel => first | exact ⟨rfl, rfl⟩ | exact ⟨by congr 1; exact decide_eq_false (by omega), rfl⟩
            · clear hdz
              go_wp2_with fail
              go_meet
              case rel => first | exact ⟨rfl, rfl⟩ | exact ⟨by congr 1; exact decide_eq_false (by omega), rfl⟩
          case rest =>
            obtain ⟨rfl, rfl⟩ := hcut
            clear hdz h1
            go_upto_region 15 with (first | (go_at_call 8; refine (DB.out _).mono ?_; rintro e w4 ⟨rfl, b4⟩; have x4 := x3.keep b4; have y4 := y3.keep b4; clear e0 e1 e2 e3 f1 f2 f3; have e0 := x4.cell 0; have e1 := x4.cell 1; have e2 := x4.cell 2; have e3 := x4.cell 3; have f1 := y4.cell 1; have f2 := y4.cell 2; have f3 := y4.cell 3; have hB4 := hB3.trans (b4.mono hB3.size); clear x3 y3 b4 hB3 DB))
            go_cut [130] from 47 to 177 (fun x wc => x = .bool false ∧ w4 = wc)
            case first =>
              by_cases heb : eb = 0
              · have geb := HB'.out heb
                have zeb : (eb == 0) = true := by simpa using heb
                clear heb
                go_wp2_with fail
                go_meet
                case rel => first | exact ⟨rfl, rfl⟩ | exact ⟨by congr 1; exact decide_eq_false (by omega), rfl⟩
              · have zeb : (eb == 0) = false := by simpa using heb
                clear heb
                go_wp2_with fail
                go_meet
                case rel => first | exact ⟨rfl, rfl⟩ | exact ⟨by congr 1; exact decide_eq_false (by omega), rfl⟩
            case rest =>
              obtain ⟨rfl, rfl⟩ := hcut
              go_upto_region 18 with (first | (go_at_call 8; refine (DC.out _).mono ?_; rintro e w5 ⟨rfl, b5⟩; have x5 := x4.keep b5; have y5 := y4.keep b5; clear e0 e1 e2 e3 f1 f2 f3; have e0 := x5.cell 0; have e1 := x5.cell 1; have e2 := x5.cell 2; have e3 := x5.cell 3; have f1 := y5.cell 1; have f2 := y5.cell 2; have f3 := y5.cell 3; have hB5 := hB4.trans (b5.mono hB4.size); clear x4 y4 b5 hB4 DC))
              go_cut [153] from 47 to 177 (fun x wc => x = .bool false ∧ w5 = wc)
              case first =>
                by_cases hec : ec = 0
                · have gec := HC'.out hec
                  have zec : (ec == 0) = true := by simpa using hec
                  clear hec
                  go_wp2_with fail
                  go_meet
                  case rel => first | exact ⟨rfl, rfl⟩ | exact ⟨by congr 1; exact decide_eq_false (by omega), rfl⟩
                · have zec : (ec == 0) = false := by simpa using hec
                  clear hec
                  go_wp2_with fail
                  go_meet
                  case rel => first | exact ⟨rfl, rfl⟩ | exact ⟨by congr 1; exact decide_eq_false (by omega), rfl⟩
              case rest =>
                obtain ⟨rfl, rfl⟩ := hcut
                go_upto_region 21 with (first | (go_at_call 8; refine (DD.out _).mono ?_; rintro e w6 ⟨rfl, b6⟩; have x6 := x5.keep b6; have y6 := y5.keep b6; clear e0 e1 e2 e3 f1 f2 f3; have e0 := x6.cell 0; have e1 := x6.cell 1; have e2 := x6.cell 2; have e3 := x6.cell 3; have f1 := y6.cell 1; have f2 := y6.cell 2; have f3 := y6.cell 3; have hB6 := hB5.trans (b6.mono hB5.size); clear x5 y5 b6 hB5 DD))
                go_cut [177] from 47 to 177 (fun x wc => x = .bool false ∧ w6 = wc)
                case first =>
                  by_cases hef : ef = 0
                  · have gef := HF'.out hef
                    have zef : (ef == 0) = true := by simpa using hef
                    clear hef
                    go_wp2_with fail
                    go_meet
                    case rel => first | exact ⟨rfl, rfl⟩ | exact ⟨by congr 1; exact decide_eq_false (by omega), rfl⟩
                  · have zef : (ef == 0) = false := by simpa using hef
                    clear hef
                    go_wp2_with fail
                    go_meet
                    case rel => first | exact ⟨rfl, rfl⟩ | exact ⟨by congr 1; exact decide_eq_false (by omega), rfl⟩
                case rest =>
                  obtain ⟨rfl, rfl⟩ := hcut
                  go_wp2_with fail
                  go_roundw
                  case rel => exact ⟨2, by omega, rfl, x6, y6, hB6⟩
                  case measure => simp [intOf]
        · have hb : (ea != 0) = true := by simpa using hea
          clear hA hea
          go_wp2_with (first | (go_at_call 8; refine (DA.out _).mono ?_; rintro e w2 ⟨rfl, b2⟩; have x2 := x1.keep b2; have y2 := y1.keep b2; clear e0 e1 e2 e3 f1 f2 f3; have e0 := x2.cell 0; have e1 := x2.cell 1; have e2 := x2.cell 2; have e3 := x2.cell 3; have f1 := y2.cell 1; have f2 := y2.cell 2; have f3 := y2.cell 3; have hB2 := hB1.trans (b2.mono hB1.size); clear x1 y1 b2 hB1 DA))
          go_roundw
          case rel => exact ⟨2, by omega, rfl, x2, y2, hB2⟩
          case measure => simp [intOf]
    · go_wp2_with fail
      go_ret
      exact ⟨rfl, hB1⟩

theorem opened (H : Type) (enc : TypeId × Value → H) (W : World) (base : Nat) (args : Array Value) (ds : List (DataW H)) (p : List MemPlace)
    (hval : ∀ (j : Nat) t v, Try.f4.params[j]? = some t → args[j]? = some v → Value.okWide Try.prog W .any base t v)
    (hA : DataW.TrodAll enc Try.prog W 0 (fun _ => true) true Try.f4.params.toList args.toList ds p)
    (_hr : ∀ x ∈ DataW.weightsEach Try.prog Try.f4.params.toList ds, x ≤ reachBytes)
    (_hL : laidMetH Try.prog Rows.optRisesRow.laid W) :
    Calls Try.prog 4 args W fun e W' => e = .returned (.bool true) ∧ Below W.heap.size W W' := by
  rw [Try.params4] at hA hval
  obtain ⟨v0, vs0, d0, ds0, p0, q0, hargs, rfl, rfl, h0, r0⟩ := trodAll_cons hA
  obtain ⟨v1, vs1, d1, ds1, p1, q1, rfl, rfl, rfl, h1, r1⟩ := trodAll_cons r0
  obtain ⟨rfl, rfl, rfl⟩ := trodAll_nil r1
  obtain rfl : args = #[v0, v1] := by cases args; simp_all
  obtain ⟨s, p, v, d, rfl, _, _, _, hd⟩ := open_opt (hval 0 23 v0 rfl rfl) h0
  obtain ⟨ms, mp, mv, md, rfl, _, _, _, _⟩ := open_opt (hval 1 23 v1 rfl rfl) h1
  by_cases h : mp < 0 ∨ mv < 0 ∨ md < 0 ∨ 100000000000000 < mp ∨ 100000000000000 < mv ∨ 100000 < md ∨ 100000 < d
  · exact walk_no s p v d ms mp mv md W h
  · exact walk_yes s p v d ms mp mv md W hd (by omega) (by omega) (by omega) (by omega) (by omega) (by omega) (by omega)
end Go.Proofs.Ytoiegkdmlhnbgaa.optRises
