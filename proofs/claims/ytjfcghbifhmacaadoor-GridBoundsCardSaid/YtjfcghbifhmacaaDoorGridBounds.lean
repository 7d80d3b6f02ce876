/- GridBounds: the plain law, the walk, and the step from the law's arguments to it. -/
import Derived.Test.YtjfcghbifhmacaaDoorGridAll
import Derived.Test.YtjfcghbifhmacaaDoorBaseSeq
namespace Go.Proofs.YtjfcghbifhmacaaDoor.gridBounds
open Go.ChangeShapes Go.WideShapes Go.ChangeAt Go.RowKit Go.Shelf Go.Proofs.YtjfcghbifhmacaaDoor.Bas Go.Proofs.YtjfcghbifhmacaaDoor.FixpM Go.Proofs.YtjfcghbifhmacaaDoor.FixpW Go.Proofs.YtjfcghbifhmacaaDoor.OptW Go.Proofs.YtjfcghbifhmacaaDoor.GridW
attribute [local go_sem] Oper.semAt_some

theorem pt_price {x k : Int} (hx : 0 ≤ x ∧ x ≤ 1000000000000) (hk : -2000 ≤ k ∧ k ≤ 2000) : 4 * x - 4 ≤ 5 * pt x k ∧ 5 * pt x k ≤ 6 * x ∧ 0 ≤ pt x k ∧ pt x k ≤ 1200000000000 := by
  unfold pt
  have h1 : x * 8000 ≤ x * (10000 + k) := Int.mul_le_mul_of_nonneg_left (by omega) hx.1
  have h2 : x * (10000 + k) ≤ x * 12000 := Int.mul_le_mul_of_nonneg_left (by omega) hx.1
  generalize x * (10000 + k) = n at *
  omega
theorem pt_vol {x k : Int} (hx : 0 ≤ x ∧ x ≤ 50000) (hk : -2500 ≤ k ∧ k ≤ 2500) : 3 * x - 3 ≤ 4 * pt x k ∧ 4 * pt x k ≤ 5 * x ∧ 0 ≤ pt x k ∧ pt x k ≤ 62500 := by
  unfold pt
  have h1 : x * 7500 ≤ x * (10000 + k) := Int.mul_le_mul_of_nonneg_left (by omega) hx.1
  have h2 : x * (10000 + k) ≤ x * 12500 := Int.mul_le_mul_of_nonneg_left (by omega) hx.1
  generalize x * (10000 + k) = n at *
  omega
theorem pt_more {x y k : Int} (h : x ≤ y) (hk : -2000 ≤ k) : pt x k ≤ pt y k := by
  unfold pt
  have h1 : x * (10000 + k) ≤ y * (10000 + k) := Int.mul_le_mul_of_nonneg_right h (by omega)
  generalize x * (10000 + k) = n at *
  generalize y * (10000 + k) = m at *
  omega

/-- the four variables of a call -/
structure Held (w W : World) (p v m : Int) (r : Bool) : Prop where
  pr : Box W w.heap.size 3 #[.int .i64 p]
  vo : Box W (w.heap.size + 1) 3 #[.int .i64 v]
  mo : Box W (w.heap.size + 2) 3 #[.int .i64 m]
  rs : Box W (w.heap.size + 3) 4 #[.bool r]
  low : Below w.heap.size w W
theorem held_new (w : World) (p v m : Int) : Held w ((((w.alloc (.cells #[.int .i64 p] 3)).alloc (.cells #[.int .i64 v] 3)).alloc (.cells #[.int .i64 m] 3)).alloc (.cells #[.bool false] 4)) p v m false := by
  have b1 := Box.new w 3 #[.int .i64 p]
  have b2 := Box.new (w.alloc (.cells #[.int .i64 p] 3)) 3 #[.int .i64 v]
  have b3 := Box.new ((w.alloc (.cells #[.int .i64 p] 3)).alloc (.cells #[.int .i64 v] 3)) 3 #[.int .i64 m]
  have b4 := Box.new (((w.alloc (.cells #[.int .i64 p] 3)).alloc (.cells #[.int .i64 v] 3)).alloc (.cells #[.int .i64 m] 3)) 4 #[.bool false]
  simp only [World.size_alloc, Nat.add_assoc, Nat.reduceAdd] at b2 b3 b4
  exact ⟨((b1.alloc _).alloc _).alloc _, (b2.alloc _).alloc _, b3.alloc _, b4,
    ((((Below.refl _ _).alloc (Nat.le_refl _) _).alloc (by simp) _).alloc (by simp; omega) _).alloc (by simp; omega) _⟩
theorem Held.keep {w A B : World} {p v m : Int} {r : Bool} (h : Held w A p v m r) (hb : Below A.heap.size A B) : Held w B p v m r :=
  ⟨h.pr.keep hb, h.vo.keep hb, h.mo.keep hb, h.rs.keep hb, h.low.trans (hb.mono h.low.size)⟩
theorem Held.drewN {w A : World} {p v m : Int} {r : Bool} (h : Held w A p v m r) (n : Nat) : Held w (A.drewN n) p v m r :=
  ⟨h.pr.drewN n, h.vo.drewN n, h.mo.drewN n, h.rs.drewN n, below_drewN h.low n⟩
theorem Held.set {w A : World} {p v m : Int} {r : Bool} (h : Held w A p v m r) (b : Bool) : Held w (A.setCell ⟨w.heap.size + 3, 0, none⟩ (.bool b)) p v m b :=
  ⟨h.pr.far (by simp) _, h.vo.far (by simp) _, h.mo.far (by simp) _, h.rs.set 0 _, h.low.setCell (p := ⟨w.heap.size + 3, 0, none⟩) (by simp) _⟩
theorem held_own {β : Type} (w : World) (p v m : Int) (r : Bool) {B : Nat} (hB : w.heap.size ≤ B) : OwnFrom B (fun (_ : β) W => Held w W p v m r) :=
  fun s A C row hs hg hr => ⟨box_own (β := β) _ _ _ B s A C row hs.pr hg hr, box_own (β := β) _ _ _ B s A C row hs.vo hg hr, box_own (β := β) _ _ _ B s A C row hs.mo hg hr, box_own (β := β) _ _ _ B s A C row hs.rs hg hr,
    ownFrom_below (β := β) (Nat.le_refl _) hB s A C row hs.low hg hr⟩

set_option maxHeartbeats 4000000 in
set_option maxRecDepth 100000 in
theorem walk (p v m : Int) (w : World) (ht : Tab w) :
    Calls Tryd.prog 7 #[.int .i64 p, .int .i64 v, .int .i64 m] w fun e w' => e = .returned (.bool true) ∧ Below w.heap.size w w' := by
  have HT := Lib.hid ht
  have D0 := Lib.hid (fun W (h : Tab W) => wakes_calls W h)
  have hl := Lib.hid ht.lt
  clear ht
  refine (callsIn_wide (n := 9)).1 (callsIn_of_wp_marks Tryd.func7 rfl trivial ?_ rfl)
  refine wpIn_wide.2 ?_
  simp only [Tryd.ntmps7, List.size_toArray, List.length_cons, List.length_nil, Nat.reduceAdd, Nat.reduceSub, Array.replicate_succ, Array.replicate_zero, List.push_toArray, List.append_toArray, List.nil_append, List.cons_append]
  go_upto_region 1 with fail
  have X := held_new w p v m
  generalize (((w.alloc (.cells #[.int .i64 p] 3)).alloc (.cells #[.int .i64 v] 3)).alloc (.cells #[.int .i64 m] 3)).alloc (.cells #[.bool false] 4) = w0 at X ⊢
  go_wp2_with (first
    | (go_at_call 8; refine (D0.out _ (HT.out.keep X.low)).mono ?_; rintro e w1 ⟨rfl, b1⟩; have X1 := X.keep b1; clear X b1 D0)
    | (go_at_call 15; refine (all_calls _).mono ?_; rintro e w' ⟨rfl, rfl⟩))
  have T1 := HT.out.keep X1.low
  have hz := X1.low.size
  refine wpIn_wide.1 (wpIn_rangeFunc_ownF (n := 9) (encs := encS) rfl (by decide) (gf := 23) (lb := #[]) rfl trivial (enters_of Tryd.func23 (by kernel_rfl) rfl)
    (all_stops 8 (by decide) w.heap.size hl.out.1 hl.out.2 w1 T1 (by have := hl.out.1; omega) (by have := hl.out.2; omega)) belowK_t (belowK_b hz) (Below.refl _ _) (fun _ => rfl)
    (fun _ W => Held w W p v m false)
    (fun c _ W => c = .ret ∧ Held w W p v m true)
    (held_own w p v m false hz) (fun c => (own_pure (fun _ => c = .ret) _).and (held_own w p v m true hz)) X1
    _ (by intro l x W K hK; unfold encS; gi_wp2; exact hK) ?body ?done ?stop)
  case body =>
    rintro l pre x W X _
    have e0 := X.pr.cell 0
    have e1 := X.vo.cell 0
    by_cases hp : placed p v (x : Int)
    · have hs : x < 21 := by unfold placed at hp; omega
      have hlim := shift_lim x hs
      have a1 := pt_price (x := p) (k := shiftOf x) (by unfold placed at hp; omega) (by omega)
      have a2 := pt_vol (x := v) (k := volOf x) (by unfold placed at hp; omega) (by omega)
      have hin : 0 ≤ p ∧ p ≤ 1000000000000 ∧ 0 ≤ v ∧ v ≤ 50000 := by unfold placed at hp; omega
      have hmo := fun h : p ≤ p + m => pt_more (k := shiftOf x) h (by omega)
      have HMo := Lib.hid hmo
      have hP := Lib.hid (fun W h => pointF_yes hp ▸ point_calls p v (x : Int) W h)
      have hQ := fun W h => point_calls (p + m) v (x : Int) W h
      have e2 := X.mo.cell 0
      clear hmo
      by_cases m0 : m < 0
      · clear hQ HMo
        generalize pt p (shiftOf x) = P at *
        generalize pt v (volOf x) = V at *
        gi_wp2_with (first | (refine ⟨trivial, ?_⟩; gi_at_call 13; refine (CallsIn.inRound l (callsIn_wide.2 (hP.out _ (HT.out.keep X.low)))).mono ?_; rintro e w2 ⟨rfl, n2, rfl⟩; have X2 := X.drewN n2; have f0 := X2.pr.cell 0; have f1 := X2.vo.cell 0; have f2 := X2.mo.cell 0; clear hP e0 e1 e2))
        exact ⟨keeps_drewN W n2, below_drewN_l W n2, X2⟩
      · by_cases m1 : 1000000000000 < m
        · clear hQ HMo
          generalize pt p (shiftOf x) = P at *
          generalize pt v (volOf x) = V at *
          gi_wp2_with (first | (refine ⟨trivial, ?_⟩; gi_at_call 13; refine (CallsIn.inRound l (callsIn_wide.2 (hP.out _ (HT.out.keep X.low)))).mono ?_; rintro e w2 ⟨rfl, n2, rfl⟩; have X2 := X.drewN n2; have f0 := X2.pr.cell 0; have f1 := X2.vo.cell 0; have f2 := X2.mo.cell 0; clear hP e0 e1 e2))
          exact ⟨keeps_drewN W n2, below_drewN_l W n2, X2⟩
        · by_cases hp2 : placed (p + m) v (x : Int)
          · rw [pointF_yes hp2] at hQ
            have HQ := Lib.hid hQ
            have hle := HMo.out (by omega)
            clear hQ HMo hp hp2
            generalize pt p (shiftOf x) = P at *
            generalize pt v (volOf x) = V at *
            generalize pt (p + m) (shiftOf x) = P2 at *
            gi_wp2_with (first | (refine ⟨trivial, ?_⟩; gi_at_call 13; refine (CallsIn.inRound l (callsIn_wide.2 (hP.out _ (HT.out.keep X.low)))).mono ?_; rintro e w2 ⟨rfl, n2, rfl⟩; have X2 := X.drewN n2; have f0 := X2.pr.cell 0; have f1 := X2.vo.cell 0; have f2 := X2.mo.cell 0; clear hP e0 e1 e2) | (refine ⟨trivial, ?_⟩; gi_at_call 13; refine (CallsIn.inRound l (callsIn_wide.2 (HQ.out _ (HT.out.keep X2.low)))).mono ?_; rintro e w3 ⟨rfl, n3, rfl⟩; have X3 := X2.drewN n3))
            exact ⟨keeps_drewN W (n2 + n3), below_drewN_l W (n2 + n3), X.drewN (n2 + n3)⟩
          · rw [pointF_no hp2] at hQ
            have HQ := Lib.hid hQ
            clear hQ HMo hp hp2
            generalize pt p (shiftOf x) = P at *
            generalize pt v (volOf x) = V at *
            gi_wp2_with (first | (refine ⟨trivial, ?_⟩; gi_at_call 13; refine (CallsIn.inRound l (callsIn_wide.2 (hP.out _ (HT.out.keep X.low)))).mono ?_; rintro e w2 ⟨rfl, n2, rfl⟩; have X2 := X.drewN n2; have f0 := X2.pr.cell 0; have f1 := X2.vo.cell 0; have f2 := X2.mo.cell 0; clear hP e0 e1 e2) | (refine ⟨trivial, ?_⟩; gi_at_call 13; refine (CallsIn.inRound l (callsIn_wide.2 (HQ.out _ (HT.out.keep X2.low)))).mono ?_; rintro e w3 ⟨rfl, n3, rfl⟩; have X3 := X2.drewN n3))
            exact ⟨keeps_drewN W (n2 + n3), below_drewN_l W (n2 + n3), X.drewN (n2 + n3)⟩
    · have hP := Lib.hid (fun W h => pointF_no hp ▸ point_calls p v (x : Int) W h)
      clear hp
      gi_wp2_with (first | (refine ⟨trivial, ?_⟩; gi_at_call 13; refine (CallsIn.inRound l (callsIn_wide.2 (hP.out _ (HT.out.keep X.low)))).mono ?_; rintro e w2 ⟨rfl, n2, rfl⟩; have X2 := X.drewN n2; have f6 := X2.rs.cell 0; have fr := X2.rs.frozen 0))
      exact ⟨(keeps_drewN W n2).trans (KeepsOthers.setCell _ _ _), rfl, X2.set true⟩
  case done =>
    rintro D ys W hD _ X hK
    have f6 := X.rs.cell 0
    have fr := X.rs.frozen 0
    go_wp2_with fail
    have hK' := (KeepsOthers.setCell W ⟨w.heap.size + 3, 0, none⟩ (.bool true)).same D _ hK rfl
    refine ⟨by simp, .inl ⟨_, _, rfl, run_takeDeferred hK', ?_⟩⟩
    have hc := ((X.set true).rs.grown (grownBy_putObj' _ D (.deferred none)) (fun r e => by cases e; exact ⟨_, hK', rfl⟩)).cell 0
    exact ⟨.bool true, by simp [results, Tryd.f7, go_sem, hc], rfl, (X.set true).low.trans (belowK_b (w := w1) hz _ D _ _ hD hK' rfl rfl)⟩
  case stop =>
    rintro D c pre W hD hpre ⟨rfl, X⟩ hK
    refine wpIn_wide.2 ?_
    go_wp2_with fail
    refine ⟨by simp, .inl ⟨_, _, rfl, run_takeDeferred hK, ?_⟩⟩
    have hc := (X.rs.grown (grownBy_putObj' W D (.deferred none)) (fun r e => by cases e; exact ⟨_, hK, rfl⟩)).cell 0
    exact ⟨.bool true, by simp [results, Tryd.f7, go_sem, hc], rfl, X.low.trans (belowK_b (w := w1) hz W D _ _ hD hK rfl rfl)⟩

theorem opened (H : Type) (enc : TypeId × Value → H) (W : World) (base : Nat) (args : Array Value) (ds : List (DataW H)) (p : List MemPlace)
    (hval : ∀ (j : Nat) t v, Tryd.f7.params[j]? = some t → args[j]? = some v → Value.okWide Tryd.prog W .any base t v)
    (hA : DataW.TrodAll enc Tryd.prog W 0 (fun _ => true) true Tryd.f7.params.toList args.toList ds p)
    (hr : ∀ x ∈ DataW.weightsEach Tryd.prog Tryd.f7.params.toList ds, x ≤ reachBytes)
    (hL : laidMetH Tryd.prog Rows.gridBoundsRow.laid W) :
    Calls Tryd.prog 7 args W fun e W' => e = .returned (.bool true) ∧ Below W.heap.size W W' := by
  rw [Tryd.params7] at hA hval hr
  obtain ⟨v0, vs0, d0, ds0, p0, q0, hargs, rfl, rfl, h0, r0⟩ := trodAll_cons hA
  obtain ⟨v1, vs1, d1, ds1, p1, q1, rfl, rfl, rfl, h1, r1⟩ := trodAll_cons r0
  obtain ⟨v2, vs2, d2, ds2, p2, q2, rfl, rfl, rfl, h2, r2⟩ := trodAll_cons r1
  obtain ⟨rfl, rfl, rfl⟩ := trodAll_nil r2
  obtain rfl : args = #[v0, v1, v2] := by cases args; simp_all
  obtain ⟨pr, rfl, rfl, rfl, _⟩ := open_int Tryd.underlying3 (hval 0 3 v0 rfl rfl) h0
  obtain ⟨vo, rfl, rfl, rfl, _⟩ := open_int Tryd.underlying3 (hval 1 3 v1 rfl rfl) h1
  obtain ⟨mo, rfl, rfl, rfl, _⟩ := open_int Tryd.underlying3 (hval 2 3 v2 rfl rfl) h2
  exact walk pr vo mo W (tab_of_laid hL)
end Go.Proofs.YtjfcghbifhmacaaDoor.gridBounds
