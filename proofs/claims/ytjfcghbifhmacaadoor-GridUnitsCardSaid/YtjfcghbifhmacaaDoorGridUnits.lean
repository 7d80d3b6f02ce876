/- GridUnits: the walk, and the step from the law's arguments to it. -/
import Derived.Test.YtjfcghbifhmacaaDoorGridLawBase
namespace Go.Proofs.YtjfcghbifhmacaaDoor.gridUnits
open Go.ChangeShapes Go.WideShapes Go.ChangeAt Go.RowKit Go.Proofs.YtjfcghbifhmacaaDoor.Bas Go.Proofs.YtjfcghbifhmacaaDoor.FixpM Go.Proofs.YtjfcghbifhmacaaDoor.FixpW Go.Proofs.YtjfcghbifhmacaaDoor.OptW Go.Proofs.YtjfcghbifhmacaaDoor.GridW

set_option maxHeartbeats 4000000 in
set_option maxRecDepth 100000 in
theorem walk (k u m s x : Int) (c : Bool) (r : Int) (n : ByteArray) (cu p v d : Int) (w : World) (ht : Tab w) :
    Calls Tryd.prog 3 #[instrV k u m s x c r, underV n cu p v, .int .i64 d] w fun e w' => e = .returned (.bool true) ∧ Below w.heap.size w w' := by
  have C1 := fun W (h : Tab W) => units_calls k u m s x c r n cu p v d W h
  have C2 := fun W => runits_calls k u m s x c r n cu p v d W
  have C3 := fun W => now_calls k u m s x c r n cu p v d W
  have C4 := fun W => rnow_calls k u m s x c r n cu p v d W
  have hl : (unitsF (scenF k s x c p v d)).length = 21 := by
    unfold unitsF; split
    · exact outs_len _ _
    · rfl
  unfold instrV underV at *
  generalize errAt (scenF k s x c p v d) 21 = e0 at C1 C2
  generalize unitsF (scenF k s x c p v d) = L at C1 C2 hl
  generalize nowF k s x c p v d = q at C3 C4
  obtain ⟨q1, q2⟩ := q
  have heq : ∀ w, (binOp BinOp.eql 27 (.agg (i64s L).toArray) (.agg (i64s L).toArray)).run Tryd.prog w = .ok (.bool true) w := by
    intro w
    have := run_eql_ints (P := Tryd.prog) w 27 3 21 .i64 Tryd.underlying27 Tryd.underlying3 (fun w => by kernel_rfl) L L hl hl
    rw [beq_self_eq_true] at this
    exact this
  have HL := Lib.hid hl
  have D0 := Lib.hid (fun W (h : Tab W) => wakes_calls W h)
  have D1 := Lib.hid C1
  have D2 := Lib.hid C2
  have D3 := Lib.hid C3
  have D4 := Lib.hid C4
  have HT := Lib.hid ht
  clear C1 C2 C3 C4 ht hl
  have X := four_new w #[.int .i64 k, .int .i64 u, .int .i64 m, .int .i64 s, .int .i64 x, .bool c, .int .i64 r] #[.string n, .int .i64 cu, .int .i64 p, .int .i64 v] #[] #[]
  have hB : Below w.heap.size w ((w.alloc (.cells #[.int .i64 k, .int .i64 u, .int .i64 m, .int .i64 s, .int .i64 x, .bool c, .int .i64 r] 23)).alloc (.cells #[.string n, .int .i64 cu, .int .i64 p, .int .i64 v] 25)) := ((Below.refl _ _).alloc (Nat.le_refl _) _).alloc (by simp) _
  have xi : Box ((w.alloc (.cells #[.int .i64 k, .int .i64 u, .int .i64 m, .int .i64 s, .int .i64 x, .bool c, .int .i64 r] 23)).alloc (.cells #[.string n, .int .i64 cu, .int .i64 p, .int .i64 v] 25)) w.heap.size 23 #[.int .i64 k, .int .i64 u, .int .i64 m, .int .i64 s, .int .i64 x, .bool c, .int .i64 r] := (Box.new w _ _).alloc _
  have xu : Box ((w.alloc (.cells #[.int .i64 k, .int .i64 u, .int .i64 m, .int .i64 s, .int .i64 x, .bool c, .int .i64 r] 23)).alloc (.cells #[.string n, .int .i64 cu, .int .i64 p, .int .i64 v] 25)) (w.heap.size + 1) 25 #[.string n, .int .i64 cu, .int .i64 p, .int .i64 v] := by
    have := Box.new (w.alloc (.cells #[.int .i64 k, .int .i64 u, .int .i64 m, .int .i64 s, .int .i64 x, .bool c, .int .i64 r] 23)) 25 #[.string n, .int .i64 cu, .int .i64 p, .int .i64 v]
    simpa using this
  clear X
  go_enter Tryd.func3, Tryd.ntmps3
  go_upto_region 1 with fail
  generalize ((w.alloc (.cells #[.int .i64 k, .int .i64 u, .int .i64 m, .int .i64 s, .int .i64 x, .bool c, .int .i64 r] 23)).alloc (.cells #[.string n, .int .i64 cu, .int .i64 p, .int .i64 v] 25)) = w0 at hB xi xu ⊢
  go_wp2_with (first
    | (go_at_call 8; refine (D0.out _ (HT.out.keep hB)).mono ?_; rintro e w1 ⟨rfl, b1⟩; clear D0; have xi1 := xi.keep b1; have xu1 := xu.keep b1; have hB1 := hB.trans (b1.mono hB.size); clear xi xu hB b1; have i0 := xi1.cell 0; have i1 := xi1.cell 1; have i2 := xi1.cell 2; have i3 := xi1.cell 3; have i4 := xi1.cell 4; have i5 := xi1.cell 5; have i6 := xi1.cell 6; have u0 := xu1.cell 0; have u1 := xu1.cell 1; have u2 := xu1.cell 2; have u3 := xu1.cell 3)
    | (go_at_call 9; refine (D1.out _ (HT.out.keep hB1)).mono ?_; rintro e w2 ⟨rfl, b2⟩; clear D1; clear i0 i1 i2 i3 i4 i5 i6 u0 u1 u2 u3; have B2 := b2.trans ((laid_below w2 L).mono b2.size); have y2 := laid_box w2 L; have xi2 := xi1.keep B2; have xu2 := xu1.keep B2; have hB2 := hB1.trans (B2.mono hB1.size); clear xi1 xu1 B2)
    | ((with_reducible refine wpList_store_box rfl 27 (.tmp 7) (.tmp 22) rfl (i64s L).toArray (Box.new w2 27 _) ?_ ?_ ?_ ?_ ?_ ?_); (· exact size21 _ (by simp [i64s, HL.out])); (· simp [i64s, HL.out]); (· exact all_one_i64 _); (· rfl); (· rfl); (change wpList _ _ _ _ _ (laidW w2 L)); have i0 := xi2.cell 0; have i1 := xi2.cell 1; have i2 := xi2.cell 2; have i3 := xi2.cell 3; have i4 := xi2.cell 4; have i5 := xi2.cell 5; have i6 := xi2.cell 6; have u0 := xu2.cell 0; have u1 := xu2.cell 1; have u2 := xu2.cell 2; have u3 := xu2.cell 3)
    | (go_at_call 10; refine (D2.out _).mono ?_; rintro e w3 ⟨rfl, b3⟩; clear D2; clear i0 i1 i2 i3 i4 i5 i6 u0 u1 u2 u3; have B3 := b3.trans ((laid_below w3 L).mono b3.size); have y3 := laid_box w3 L; have y2' := y2.keep B3; have xi3 := xi2.keep B3; have xu3 := xu2.keep B3; have hB3 := hB2.trans (B3.mono hB2.size); clear xi2 xu2 y2 B3)
    | ((with_reducible refine wpList_store_box rfl 27 (.tmp 9) (.tmp 29) rfl (i64s L).toArray (Box.new w3 27 _) ?_ ?_ ?_ ?_ ?_ ?_); (· exact size21 _ (by simp [i64s, HL.out])); (· simp [i64s, HL.out]); (· exact all_one_i64 _); (· rfl); (· rfl); (change wpList _ _ _ _ _ (laidW w3 L)); have i0 := xi3.cell 0; have i1 := xi3.cell 1; have i2 := xi3.cell 2; have i3 := xi3.cell 3; have i4 := xi3.cell 4; have i5 := xi3.cell 5; have i6 := xi3.cell 6; have u0 := xu3.cell 0; have u1 := xu3.cell 1; have u2 := xu3.cell 2; have u3 := xu3.cell 3)
    | (go_at_call 11; refine (D3.out _).mono ?_; rintro e w4 ⟨rfl, b4⟩; clear D3; clear i0 i1 i2 i3 i4 i5 i6 u0 u1 u2 u3; have xi4 := xi3.keep b4; have xu4 := xu3.keep b4; have y24 := y2'.keep b4; have y34 := y3.keep b4; have hB4 := hB3.trans (b4.mono hB3.size); clear xi3 xu3 y2' y3; have i0 := xi4.cell 0; have i1 := xi4.cell 1; have i2 := xi4.cell 2; have i3 := xi4.cell 3; have i4 := xi4.cell 4; have i5 := xi4.cell 5; have i6 := xi4.cell 6; have u0 := xu4.cell 0; have u1 := xu4.cell 1; have u2 := xu4.cell 2; have u3 := xu4.cell 3)
    | (go_at_call 12; refine (D4.out _).mono ?_; rintro e w5 ⟨rfl, b5⟩; clear D4; clear i0 i1 i2 i3 i4 i5 i6 u0 u1 u2 u3; have y25 := y24.keep b5; have y35 := y34.keep b5; have hB5 := hB4.trans (b5.mono hB4.size); clear y24 y34)
    | ((with_reducible refine wpList_load_box rfl 27 (.tmp 7) rfl y25 Tryd.underlying27 ?_ ?_ ?_ ?_); (· rfl); (· exact size21 _ (by simp [i64s, HL.out])); (· rfl)) | ((with_reducible refine wpList_load_box rfl 27 (.tmp 9) rfl y35 Tryd.underlying27 ?_ ?_ ?_ ?_); (· rfl); (· exact size21 _ (by simp [i64s, HL.out])); (· rfl)))
  go_ret
  exact ⟨rfl, hB5⟩

theorem opened (H : Type) (enc : TypeId × Value → H) (W : World) (base : Nat) (args : Array Value) (ds : List (DataW H)) (p : List MemPlace)
    (hval : ∀ (j : Nat) t v, Tryd.f3.params[j]? = some t → args[j]? = some v → Value.okWide Tryd.prog W .any base t v)
    (hA : DataW.TrodAll enc Tryd.prog W 0 (fun _ => true) true Tryd.f3.params.toList args.toList ds p)
    (hr : ∀ x ∈ DataW.weightsEach Tryd.prog Tryd.f3.params.toList ds, x ≤ reachBytes)
    (hL : laidMetH Tryd.prog Rows.gridUnitsRow.laid W) :
    Calls Tryd.prog 3 args W fun e W' => e = .returned (.bool true) ∧ Below W.heap.size W W' := by
  rw [Tryd.params3] at hA hval hr
  obtain ⟨v0, vs0, d0, ds0, p0, q0, hargs, rfl, rfl, h0, r0⟩ := trodAll_cons hA
  obtain ⟨v1, vs1, d1, ds1, p1, q1, rfl, rfl, rfl, h1, r1⟩ := trodAll_cons r0
  obtain ⟨v2, vs2, d2, ds2, p2, q2, rfl, rfl, rfl, h2, r2⟩ := trodAll_cons r1
  obtain ⟨rfl, rfl, rfl⟩ := trodAll_nil r2
  obtain rfl : args = #[v0, v1, v2] := by cases args; simp_all
  obtain ⟨k, u, m, s, x, c, r, rfl, _⟩ := open_instr (hval 0 23 v0 rfl rfl) h0
  obtain ⟨n, cu, p, v, rfl, _⟩ := open_under (hval 1 25 v1 rfl rfl) h1
  obtain ⟨d, rfl, rfl, rfl, _⟩ := open_int Tryd.underlying3 (hval 2 3 v2 rfl rfl) h2
  exact walk k u m s x c r n cu p v d W (tab_of_laid hL)
end Go.Proofs.YtjfcghbifhmacaaDoor.gridUnits
