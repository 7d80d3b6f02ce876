/- DecOrders: the walk, and the step from the law's arguments to it. -/
import Derived.Test.YtlhfjiebhlhalaaDoorDecLawBase
import Derived.Test.YtlhfjiebhlhalaaDoorDecOrdMath
namespace Go.Proofs.YtlhfjiebhlhalaaDoor.decOrders
open Go.ChangeShapes Go.WideShapes Go.ChangeAt Go.RowKit Go.Proofs.YtlhfjiebhlhalaaDoor.Bas Go.Proofs.YtlhfjiebhlhalaaDoor.DecM Go.Proofs.YtlhfjiebhlhalaaDoor.FixpM Go.Proofs.YtlhfjiebhlhalaaDoor.FixpW Go.Proofs.YtlhfjiebhlhalaaDoor.DecW

theorem bytes_less : ∀ a b : List UInt8, Op.bytesLess a b = less a b
  | [], [] => rfl
  | [], _ :: _ => rfl
  | _ :: _, [] => rfl
  | x :: a, y :: b => by
    have ih := bytes_less a b
    unfold Op.bytesLess less
    rw [ih]
    rcases Nat.lt_trichotomy x.toNat y.toNat with h | h | h
    · have h1 : x < y := UInt8.lt_iff_toNat_lt.2 h
      simp [h1, h]
    · have h1 : x = y := UInt8.toNat_inj.1 h
      subst h1
      simp
    · have h1 : ¬ x < y := fun h2 => by have := UInt8.lt_iff_toNat_lt.1 h2; omega
      have h2 : x ≠ y := by rintro rfl; omega
      have h3 : ¬ x.toNat < y.toNat := by omega
      have h4 : ¬ x.toNat = y.toNat := by omega
      simp [h1, h2, h3, h4]
theorem FmtR_cases (x p : Int) : ((FmtR x p).2 ≠ 0) ∨ (∃ q : Nat, p = q ∧ q ≤ 9 ∧ FmtR x p = (fmtF x q, 0) ∧ fits x = true) := by
  unfold FmtR
  by_cases h : p < 0 ∨ 9 < p
  · rw [if_pos h]; exact .inl (by decide)
  · rw [if_neg h]
    by_cases hf : fits x = true
    · rw [if_neg (by simp [hf])]
      exact .inr ⟨p.toNat, by omega, by omega, rfl, hf⟩
    · rw [if_pos (by simpa using hf)]
      exact .inl (by decide)

set_option maxHeartbeats 1000000 in
set_option maxRecDepth 20000 in
theorem walk (a b p : Int) (w : World) (hxa : I64 a) (hxb : I64 b) (hp : I64 p) (ht : Pow w) :
    Calls Tryd.prog 6 #[.int .i64 a, .int .i64 b, .int .i64 p] w fun e w' => e = .returned (.bool true) ∧ Below w.heap.size w w' := by
  have C0 := Lib.hid (wakes_calls w ht)
  have HT := Lib.hid ht
  have c1 := fun W h => format_calls a p W hxa hp h
  have c2 := fun W h => format_calls b p W hxb hp h
  unfold FmtV at c1 c2
  have ka := FmtR_cases a p
  have kb := FmtR_cases b p
  obtain ⟨va, hva⟩ : ∃ v, v = FmtR a p := ⟨_, rfl⟩
  obtain ⟨vb, hvb⟩ : ∃ v, v = FmtR b p := ⟨_, rfl⟩
  rw [← hva] at c1 ka
  rw [← hvb] at c2 kb
  have C1 := Lib.hid c1
  have C2 := Lib.hid c2
  clear c1 c2 hxa hxb hp ht hva hvb
  obtain ⟨la, ca⟩ := va
  obtain ⟨lb, cb⟩ := vb
  by_cases h1 : ca = 0
  · by_cases h2 : cb = 0
    · by_cases h3 : 0 ≤ a ∧ 0 ≤ b
      · rcases ka with ka | ⟨q, rfl, _, ea, _⟩
        · exact absurd h1 ka
        rcases kb with kb | ⟨q2, hq2, _, eb, _⟩
        · exact absurd h2 kb
        obtain rfl : q = q2 := by omega
        clear hq2
        obtain ⟨A, rfl⟩ : ∃ A : Nat, a = A := ⟨a.toNat, by omega⟩
        obtain ⟨B, rfl⟩ : ∃ B : Nat, b = B := ⟨b.toNat, by omega⟩
        have ela : la = fmtL A q := by
          have := congrArg Prod.fst ea
          simp only at this
          rw [this]; unfold fmtF; rw [if_neg (by omega)]; rfl
        have elb : lb = fmtL B q := by
          have := congrArg Prod.fst eb
          simp only at this
          rw [this]; unfold fmtF; rw [if_neg (by omega)]; rfl
        by_cases hl : la.length = lb.length
        · have hlf := less_fmt (a := A) (b := B) (q := q) (by rw [← ela, ← elb]; exact hl)
          rw [← ela, ← elb] at hlf
          have HLF := Lib.hid hlf
          have hll : ((la.length : Int) != (lb.length : Int)) = false := by simp [hl]
          clear hlf ela elb ea eb
          subst h1 h2
          have HL := Lib.hid hl
          clear hl
          go_enter Tryd.func6, Tryd.ntmps6
          go_wp2_with (first
            | (go_at_call 7; refine C0.out.mono ?_; rintro e w1 ⟨rfl, b1⟩)
            | (go_at_call 8; refine (C1.out _ (HT.out.keep b1)).mono ?_; rintro e w2 ⟨rfl, b2⟩; have B2 := b1.trans (b2.mono b1.size); clear C1)
            | (go_at_call 8; refine (C2.out _ (HT.out.keep B2)).mono ?_; rintro e w3 ⟨rfl, b3⟩; have B3 := B2.trans (b3.mono B2.size)))
          · go_ret
            refine ⟨ret_bool ?_, B3⟩
            have h9 := HLF.out.2
            rw [Bool.eq_iff_iff]
            simp
            rw [Bool.eq_iff_iff]
            simp
            rw [h9]
            omega
          · rename_i hbad
            exact absurd ((bytes_less la lb).trans HLF.out.1) hbad
        · have hlt := len_lt (a := A) (b := B) (q := q) (by rw [← ela, ← elb]; exact hl)
          rw [← ela, ← elb] at hlt
          have HLT := Lib.hid hlt
          have hll : ((la.length : Int) != (lb.length : Int)) = true := by simp; omega
          clear hlt ela elb ea eb
          subst h1 h2
          have HL := Lib.hid hl
          clear hl
          go_enter Tryd.func6, Tryd.ntmps6
          go_wp2_with (first
            | (go_at_call 7; refine C0.out.mono ?_; rintro e w1 ⟨rfl, b1⟩)
            | (go_at_call 8; refine (C1.out _ (HT.out.keep b1)).mono ?_; rintro e w2 ⟨rfl, b2⟩; have B2 := b1.trans (b2.mono b1.size); clear C1)
            | (go_at_call 8; refine (C2.out _ (HT.out.keep B2)).mono ?_; rintro e w3 ⟨rfl, b3⟩; have B3 := B2.trans (b3.mono B2.size)))
          go_ret
          refine ⟨ret_bool ?_, B3⟩
          have h9 := HLT.out
          rw [Bool.eq_iff_iff]
          simp
          exact h9
      · subst h1 h2
        clear ka kb
        by_cases h4 : 0 ≤ a
        · have h5 : ¬ 0 ≤ b := fun h => h3 ⟨h4, h⟩
          clear h3
          go_enter Tryd.func6, Tryd.ntmps6
          go_wp2_with (first
            | (go_at_call 7; refine C0.out.mono ?_; rintro e w1 ⟨rfl, b1⟩)
            | (go_at_call 8; refine (C1.out _ (HT.out.keep b1)).mono ?_; rintro e w2 ⟨rfl, b2⟩; have B2 := b1.trans (b2.mono b1.size); clear C1)
            | (go_at_call 8; refine (C2.out _ (HT.out.keep B2)).mono ?_; rintro e w3 ⟨rfl, b3⟩; have B3 := B2.trans (b3.mono B2.size)))
          go_ret
          exact ⟨rfl, B3⟩
        · clear h3
          go_enter Tryd.func6, Tryd.ntmps6
          go_wp2_with (first
            | (go_at_call 7; refine C0.out.mono ?_; rintro e w1 ⟨rfl, b1⟩)
            | (go_at_call 8; refine (C1.out _ (HT.out.keep b1)).mono ?_; rintro e w2 ⟨rfl, b2⟩; have B2 := b1.trans (b2.mono b1.size); clear C1)
            | (go_at_call 8; refine (C2.out _ (HT.out.keep B2)).mono ?_; rintro e w3 ⟨rfl, b3⟩; have B3 := B2.trans (b3.mono B2.size)))
          go_ret
          exact ⟨rfl, B3⟩
    · have h5 : (cb != 0) = true := by simpa using h2
      subst h1
      clear ka kb
      go_enter Tryd.func6, Tryd.ntmps6
      go_wp2_with (first
        | (go_at_call 7; refine C0.out.mono ?_; rintro e w1 ⟨rfl, b1⟩)
        | (go_at_call 8; refine (C1.out _ (HT.out.keep b1)).mono ?_; rintro e w2 ⟨rfl, b2⟩; have B2 := b1.trans (b2.mono b1.size); clear C1)
        | (go_at_call 8; refine (C2.out _ (HT.out.keep B2)).mono ?_; rintro e w3 ⟨rfl, b3⟩; have B3 := B2.trans (b3.mono B2.size)))
      go_ret
      exact ⟨rfl, B3⟩
  · have h5 : (ca != 0) = true := by simpa using h1
    clear ka kb
    go_enter Tryd.func6, Tryd.ntmps6
    go_wp2_with (first
      | (go_at_call 7; refine C0.out.mono ?_; rintro e w1 ⟨rfl, b1⟩)
      | (go_at_call 8; refine (C1.out _ (HT.out.keep b1)).mono ?_; rintro e w2 ⟨rfl, b2⟩; have B2 := b1.trans (b2.mono b1.size); clear C1)
      | (go_at_call 8; refine (C2.out _ (HT.out.keep B2)).mono ?_; rintro e w3 ⟨rfl, b3⟩; have B3 := B2.trans (b3.mono B2.size)))
    go_ret
    exact ⟨rfl, B3⟩

set_option maxRecDepth 100000 in
theorem opened (H : Type) (enc : TypeId × Value → H) (W : World) (base : Nat) (args : Array Value) (ds : List (DataW H)) (p : List MemPlace)
    (hval : ∀ (j : Nat) t v, Tryd.f6.params[j]? = some t → args[j]? = some v → Value.okWide Tryd.prog W .any base t v)
    (hA : DataW.TrodAll enc Tryd.prog W 0 (fun _ => true) true Tryd.f6.params.toList args.toList ds p)
    (hr : ∀ x ∈ DataW.weightsEach Tryd.prog Tryd.f6.params.toList ds, x ≤ reachBytes)
    (hL : laidMetH Tryd.prog Rows.decOrdersRow.laid W) :
    Calls Tryd.prog 6 args W fun e W' => e = .returned (.bool true) ∧ Below W.heap.size W W' := by
  rw [Tryd.params6] at hA hval hr
  have _ := hL
  obtain ⟨v0, vs0, d0, ds0, p0, q0, hargs, rfl, rfl, h0, r0⟩ := trodAll_cons hA
  obtain ⟨v1, vs1, d1, ds1, p1, q1, rfl, rfl, rfl, h1, r1⟩ := trodAll_cons r0
  obtain ⟨v2, vs2, d2, ds2, p2, q2, rfl, rfl, rfl, h2, r2⟩ := trodAll_cons r1
  obtain ⟨rfl, rfl, rfl⟩ := trodAll_nil r2
  obtain rfl : args = #[v0, v1, v2] := by cases args; simp_all
  obtain ⟨a, rfl, rfl, rfl, wa⟩ := open_int Tryd.underlying3 (hval 0 3 v0 rfl rfl) h0
  obtain ⟨b, rfl, rfl, rfl, wb⟩ := open_int Tryd.underlying3 (hval 1 3 v1 rfl rfl) h1
  obtain ⟨p, rfl, rfl, rfl, wp⟩ := open_int Tryd.underlying3 (hval 2 3 v2 rfl rfl) h2
  exact walk a b p W (i64_wf wa) (i64_wf wb) (i64_wf wp) (pow_laid hL)
end Go.Proofs.YtlhfjiebhlhalaaDoor.decOrders
