/- Units and Now. -/
import Derived.Test.YtjfcghbifhmacaaDoorGridPoint
import Derived.Test.YtjfcghbifhmacaaDoorBaseEq
import Derived.Test.YtjfcghbifhmacaaDoorBaseRow
namespace Go.Proofs.YtjfcghbifhmacaaDoor.GridW
open Go.RowKit Go.Proofs.YtjfcghbifhmacaaDoor.Bas Go.Proofs.YtjfcghbifhmacaaDoor.FixpM Go.Proofs.YtjfcghbifhmacaaDoor.FixpW Go.Proofs.YtjfcghbifhmacaaDoor.FixpR Go.Proofs.YtjfcghbifhmacaaDoor.OptW

/-- the first error among the first ones -/
def errAt (f : Nat → Int × Int) : Nat → Int
  | 0 => 0
  | n + 1 => if errAt f n = 0 then (f n).2 else errAt f n
def outs (f : Nat → Int × Int) (k : Nat) : List Int := (List.range 21).map fun j => if j < k then (f j).1 else 0
def noneOut : List Int := List.replicate 21 0
def unitsF (f : Nat → Int × Int) : List Int := if errAt f 21 = 0 then outs f 21 else noneOut
theorem errAt_on {f : Nat → Int × Int} {k : Nat} (h : errAt f k = 0) (e : (f k).2 = 0) : errAt f (k + 1) = 0 := by simp only [errAt]; rw [if_pos h, e]
theorem errAt_off {f : Nat → Int × Int} {k : Nat} (h : errAt f k = 0) (e : (f k).2 ≠ 0) : ∀ n, errAt f (k + 1 + n) = (f k).2
  | 0 => by simp only [errAt]; rw [if_pos h]
  | n + 1 => by
    have := errAt_off h e n
    show (if errAt f (k + 1 + n) = 0 then (f (k + 1 + n)).2 else errAt f (k + 1 + n)) = _
    rw [this, if_neg e]
theorem errAt_end {f : Nat → Int × Int} {k : Nat} (hk : k < 21) (h : errAt f k = 0) (e : (f k).2 ≠ 0) : errAt f 21 = (f k).2 ∧ unitsF f = noneOut := by
  have h1 := errAt_off h e (21 - (k + 1))
  rw [show k + 1 + (21 - (k + 1)) = 21 by omega] at h1
  exact ⟨h1, by unfold unitsF; rw [h1, if_neg e]⟩
theorem outs_len (f : Nat → Int × Int) (k : Nat) : (outs f k).length = 21 := by simp [outs]
theorem outs_set (f : Nat → Int × Int) (k : Nat) : (outs f k).set k (f k).1 = outs f (k + 1) := by
  apply List.ext_getElem
  · simp [outs]
  · intro i h1 h2
    simp only [outs, List.getElem_set, List.getElem_map, List.getElem_range]
    by_cases hi : k = i
    · subst hi; simp
    · rw [if_neg hi]
      by_cases h3 : i < k
      · rw [if_pos h3, if_pos (by omega)]
      · rw [if_neg h3, if_neg (by omega)]
theorem outs_set' (f : Nat → Int × Int) (k : Nat) : (i64s (outs f k)).toArray.setIfInBounds k (.int .i64 (f k).1) = (i64s (outs f (k + 1))).toArray := by
  rw [← outs_set]; simp [i64s, List.map_set]
theorem outs_zero (f : Nat → Int × Int) : outs f 0 = noneOut := rfl

def underV (n : ByteArray) (c p v : Int) : Value := .agg #[.string n, .int .i64 c, .int .i64 p, .int .i64 v]
/-- a unit in a scenario -/
def scenF (k s x : Int) (c : Bool) (p v d : Int) (i : Nat) : Int × Int :=
  if placed p v (i : Int) then unitF k s x c (pt p (shiftOf i)) (pt v (volOf i)) d else (0, 1)

theorem Tab.keep {w w' : World} (h : Tab w) (hb : Below w.heap.size w w') : Tab w' := by
  refine ⟨fun i hi => ?_, fun i hi => ?_⟩
  · have h0 := h.shift i hi
    rw [hb.cell (World.block_lt_of_cell? w _ h0)]; exact h0
  · have h0 := h.vol i hi
    rw [hb.cell (World.block_lt_of_cell? w _ h0)]; exact h0
theorem Tab.drewN {w : World} (h : Tab w) (n : Nat) : Tab (w.drewN n) := ⟨h.shift, h.vol⟩

/-- the four blocks of a call of Units: instrument, underlying, result, what is collected -/
structure Four (w w0 : World) (I U R O : Array Value) : Prop where
  ins : Box w0 w.heap.size 23 I
  und : Box w0 (w.heap.size + 1) 25 U
  res : Box w0 (w.heap.size + 2) 27 R
  out : Box w0 (w.heap.size + 3) 27 O
  low : Below w.heap.size w w0
theorem four_new (w : World) (I U R O : Array Value) : Four w ((((w.alloc (.cells I 23)).alloc (.cells U 25)).alloc (.cells R 27)).alloc (.cells O 27)) I U R O := by
  have b1 := Box.new w 23 I
  have b2 := Box.new (w.alloc (.cells I 23)) 25 U
  have b3 := Box.new ((w.alloc (.cells I 23)).alloc (.cells U 25)) 27 R
  have b4 := Box.new (((w.alloc (.cells I 23)).alloc (.cells U 25)).alloc (.cells R 27)) 27 O
  simp only [World.size_alloc, Nat.add_assoc, Nat.reduceAdd] at b2 b3 b4
  exact ⟨((b1.alloc _).alloc _).alloc _, (b2.alloc _).alloc _, b3.alloc _, b4,
    ((((Below.refl _ _).alloc (Nat.le_refl _) _).alloc (by simp) _).alloc (by simp; omega) _).alloc (by simp; omega) _⟩
theorem Four.keep {w w0 w1 : World} {I U R O : Array Value} (h : Four w w0 I U R O) (hb : Below w0.heap.size w0 w1) : Four w w1 I U R O :=
  ⟨h.ins.keep hb, h.und.keep hb, h.res.keep hb, h.out.keep hb, h.low.trans (hb.mono h.low.size)⟩
theorem Four.drewN {w w0 : World} {I U R O : Array Value} (h : Four w w0 I U R O) (n : Nat) : Four w (w0.drewN n) I U R O :=
  ⟨h.ins.drewN n, h.und.drewN n, h.res.drewN n, h.out.drewN n, below_drewN h.low n⟩
theorem Four.set {w w0 : World} {I U R O : Array Value} (h : Four w w0 I U R O) (i : Nat) (y : Value) : Four w (w0.setCell ⟨w.heap.size + 3, i, none⟩ y) I U R (O.setIfInBounds i y) :=
  ⟨h.ins.far (by simp) y, h.und.far (by simp) y, h.res.far (by simp) y, h.out.set i y, h.low.setCell (p := ⟨w.heap.size + 3, i, none⟩) (by simp) y⟩
theorem outs_get (f : Nat → Int × Int) (k j : Nat) (h : j < 21) : (i64s (outs f k)).toArray[j]? = some (.int .i64 ((outs f k).getD j 0)) := by
  have := i64s_getD (outs f k) j (by rw [outs_len]; exact h)
  simpa using this
theorem pointF_yes {p v : Int} {k : Nat} (h : placed p v (k : Int)) : pointF p v (k : Int) = (pt p (shiftOf k), pt v (volOf k), 0) := by
  unfold pointF; rw [if_pos h]; rfl
theorem pointF_no {p v s : Int} (h : ¬ placed p v s) : pointF p v s = (0, 0, 1) := by unfold pointF; rw [if_neg h]
theorem ret_arr {a b : List Int} {c d : Int} (h : a = b) (h2 : c = d) : Ending.returned (.tuple #[.agg (i64s a).toArray, .int .i64 c]) = .returned (.tuple #[.agg (i64s b).toArray, .int .i64 d]) := by rw [h, h2]

theorem size21 (C : Array Value) (h : C.size = 21) : (Tryd.prog.info? 27).map (·.size) = some C.size := by
  rw [h]; kernel_rfl
theorem none_eq : (i64s noneOut).toArray = #[.int .i64 0, .int .i64 0, .int .i64 0, .int .i64 0, .int .i64 0, .int .i64 0, .int .i64 0, .int .i64 0, .int .i64 0, .int .i64 0, .int .i64 0, .int .i64 0, .int .i64 0, .int .i64 0, .int .i64 0, .int .i64 0, .int .i64 0, .int .i64 0, .int .i64 0, .int .i64 0, .int .i64 0] := rfl
theorem Four.rowR {w w0 : World} {I U R O : Array Value} (h : Four w w0 I U R O) (C : Array Value) : Four w (w0.setRow (w.heap.size + 2) C) I U C O :=
  ⟨h.ins.farRow (by simp) C, h.und.farRow (by simp) C, h.res.row C, h.out.farRow (by simp) C, below_setRow h.low (by simp) C⟩

set_option maxHeartbeats 4000000 in
set_option maxRecDepth 100000 in
theorem units_calls (k u m s x : Int) (c : Bool) (r : Int) (n : ByteArray) (cu p v d : Int) (w : World) (ht : Tab w) :
    Calls Tryd.prog 9 #[instrV k u m s x c r, underV n cu p v, .int .i64 d] w fun e w' =>
      e = .returned (.tuple #[.agg (i64s (unitsF (scenF k s x c p v d))).toArray, .int .i64 (errAt (scenF k s x c p v d) 21)]) ∧ Below w.heap.size w w' := by
  obtain ⟨f, hf⟩ : ∃ f, f = scenF k s x c p v d := ⟨_, rfl⟩
  rw [← hf]
  have HF := Lib.hid (fun j => congrFun hf j)
  unfold instrV underV
  clear hf
  have HT := Lib.hid ht
  clear ht
  have X := four_new w #[.int .i64 k, .int .i64 u, .int .i64 m, .int .i64 s, .int .i64 x, .bool c, .int .i64 r] #[.string n, .int .i64 cu, .int .i64 p, .int .i64 v] #[.int .i64 0, .int .i64 0, .int .i64 0, .int .i64 0, .int .i64 0, .int .i64 0, .int .i64 0, .int .i64 0, .int .i64 0, .int .i64 0, .int .i64 0, .int .i64 0, .int .i64 0, .int .i64 0, .int .i64 0, .int .i64 0, .int .i64 0, .int .i64 0, .int .i64 0, .int .i64 0, .int .i64 0] #[.int .i64 0, .int .i64 0, .int .i64 0, .int .i64 0, .int .i64 0, .int .i64 0, .int .i64 0, .int .i64 0, .int .i64 0, .int .i64 0, .int .i64 0, .int .i64 0, .int .i64 0, .int .i64 0, .int .i64 0, .int .i64 0, .int .i64 0, .int .i64 0, .int .i64 0, .int .i64 0, .int .i64 0]
  go_enter Tryd.func9, Tryd.ntmps9
  go_upto_region 2 with fail
  generalize (((w.alloc (.cells #[.int .i64 k, .int .i64 u, .int .i64 m, .int .i64 s, .int .i64 x, .bool c, .int .i64 r] 23)).alloc (.cells #[.string n, .int .i64 cu, .int .i64 p, .int .i64 v] 25)).alloc (.cells #[.int .i64 0, .int .i64 0, .int .i64 0, .int .i64 0, .int .i64 0, .int .i64 0, .int .i64 0, .int .i64 0, .int .i64 0, .int .i64 0, .int .i64 0, .int .i64 0, .int .i64 0, .int .i64 0, .int .i64 0, .int .i64 0, .int .i64 0, .int .i64 0, .int .i64 0, .int .i64 0, .int .i64 0] 27)).alloc (.cells #[.int .i64 0, .int .i64 0, .int .i64 0, .int .i64 0, .int .i64 0, .int .i64 0, .int .i64 0, .int .i64 0, .int .i64 0, .int .i64 0, .int .i64 0, .int .i64 0, .int .i64 0, .int .i64 0, .int .i64 0, .int .i64 0, .int .i64 0, .int .i64 0, .int .i64 0, .int .i64 0, .int .i64 0] 27) = w0 at X ⊢
  go_wp2_with fail
  go_loopw [13] (fun i wr => ∃ j : Nat, j ≤ 21 ∧ i = .int .i64 j ∧ Four w wr #[.int .i64 k, .int .i64 u, .int .i64 m, .int .i64 s, .int .i64 x, .bool c, .int .i64 r] #[.string n, .int .i64 cu, .int .i64 p, .int .i64 v] #[.int .i64 0, .int .i64 0, .int .i64 0, .int .i64 0, .int .i64 0, .int .i64 0, .int .i64 0, .int .i64 0, .int .i64 0, .int .i64 0, .int .i64 0, .int .i64 0, .int .i64 0, .int .i64 0, .int .i64 0, .int .i64 0, .int .i64 0, .int .i64 0, .int .i64 0, .int .i64 0, .int .i64 0] (i64s (outs f j)).toArray ∧ Hid (errAt f j = 0)) (fun i _ => 21 - (intOf i).toNat)
  case atStart => exact ⟨0, by omega, rfl, by rw [outs_zero]; exact X, rfl⟩
  case round =>
    clear X
    obtain ⟨j, hj, rfl, X, H⟩ := hrel
    by_cases hlt : j < 21
    · have fj := HF.out j
      have i0 := X.ins.cell 0
      have i1 := X.ins.cell 1
      have i2 := X.ins.cell 2
      have i3 := X.ins.cell 3
      have i4 := X.ins.cell 4
      have i5 := X.ins.cell 5
      have i6 := X.ins.cell 6
      have u2 := X.und.cell 2
      have u3 := X.und.cell 3
      by_cases hp : placed p v (j : Int)
      · have hP := fun W (hW : Tab W) => point_calls p v (j : Int) W hW
        rw [pointF_yes hp] at hP
        have HP := Lib.hid hP
        clear hP
        have fj' : f j = unitF k s x c (pt p (shiftOf j)) (pt v (volOf j)) d := by rw [fj]; unfold scenF; rw [if_pos hp]
        generalize pt p (shiftOf j) = a at *
        generalize pt v (volOf j) = b at *
        have hU := fun W => unit_calls k u m s x c r a b d W
        unfold instrV at hU
        rw [← fj'] at hU
        have hset := outs_set' f j
        have hE := @errAt_on f j H.out
        have hF := @errAt_end f j hlt H.out
        have hget := outs_get f j j hlt
        obtain ⟨q1, h1⟩ : ∃ q1, q1 = (f j).1 := ⟨_, rfl⟩
        obtain ⟨q2, h2⟩ : ∃ q2, q2 = (f j).2 := ⟨_, rfl⟩
        rw [← h1] at hU hset
        rw [← h2] at hU hE hF
        have HS := Lib.hid hset
        have HG := Lib.hid hget
        clear fj fj' hset hget hp h1 h2
        by_cases h0 : q2 = 0
        · have HE := Lib.hid (hE h0)
          subst h0
          have HU := Lib.hid hU
          clear hU hE hF
          go_wp2_with (first | (go_at_call 13; refine (HP.out _ (HT.out.keep X.low)).mono ?_; rintro e w1 ⟨rfl, n1, rfl⟩; have X1 := Lib.hid (X.drewN n1); clear i0 i1 i2 i3 i4 i5 i6 u2 u3; have i0 := X1.out.ins.cell 0; have i1 := X1.out.ins.cell 1; have i2 := X1.out.ins.cell 2; have i3 := X1.out.ins.cell 3; have i4 := X1.out.ins.cell 4; have i5 := X1.out.ins.cell 5; have i6 := X1.out.ins.cell 6; clear X HP) | (go_at_call 18; refine (HU.out _).mono ?_; rintro e w2 ⟨rfl, b2⟩; have X2 := Lib.hid (X1.out.keep b2); have o1 := (X2.out.out.cell j).trans HG.out; have fr := X2.out.out.frozen j; clear HU i0 i1 i2 i3 i4 i5 i6 b2 X1))
          go_roundw
          case rel => exact ⟨j + 1, by omega, by go_num, by rw [← HS.out]; exact X2.out.set j _, HE.out⟩
          case measure => simp [intOf]; omega
        · have hb : (q2 != 0) = true := by simpa using h0
          have HN := Lib.hid (hF h0)
          have HU := Lib.hid hU
          clear h0 hU hE hF
          go_wp2_with (first | (go_at_call 13; refine (HP.out _ (HT.out.keep X.low)).mono ?_; rintro e w1 ⟨rfl, n1, rfl⟩; have X1 := Lib.hid (X.drewN n1); clear i0 i1 i2 i3 i4 i5 i6 u2 u3; have i0 := X1.out.ins.cell 0; have i1 := X1.out.ins.cell 1; have i2 := X1.out.ins.cell 2; have i3 := X1.out.ins.cell 3; have i4 := X1.out.ins.cell 4; have i5 := X1.out.ins.cell 5; have i6 := X1.out.ins.cell 6; clear X HP) | (go_at_call 18; refine (HU.out _).mono ?_; rintro e w2 ⟨rfl, b2⟩; have X2 := Lib.hid (X1.out.keep b2); have o1 := (X2.out.out.cell j).trans HG.out; have fr := X2.out.out.frozen j; clear HU i0 i1 i2 i3 i4 i5 i6 b2 X1) | ((with_reducible refine wpList_store_box rfl 27 (.tmp 6) (.tmp 42) rfl (i64s noneOut).toArray (X2.out.set j (.int .i64 q1)).res ?_ ?_ ?_ ?_ ?_ ?_); (· exact size21 _ (by simp [i64s, noneOut])); (· simp [i64s, noneOut]); (· first | rfl | exact all_one_i64 _); (· rfl); (· rfl); have X9 := Lib.hid ((X2.out.set j (.int .i64 q1)).rowR (i64s noneOut).toArray)))
          exact bodyPost_ret (results_cell_slot (by rfl) _ _ X9.out.res Tryd.underlying27 rfl (size21 _ (by simp [i64s, noneOut])) rfl) rfl ⟨by rw [HN.out.2, HN.out.1]; exact ret_arr rfl rfl, X9.out.low⟩
      · have fj' : f j = (0, 1) := by rw [fj]; unfold scenF; rw [if_neg hp]
        have hF := @errAt_end f j hlt H.out
        rw [fj'] at hF
        have HN := Lib.hid (hF (by decide))
        have HZ := Lib.hid (pointF_no hp)
        clear fj fj' hF hp
        have hP := fun W (hW : Tab W) => point_calls p v (j : Int) W hW
        rw [HZ.out] at hP
        have HP := Lib.hid hP
        clear hP
        go_wp2_with (first | (go_at_call 13; refine (HP.out _ (HT.out.keep X.low)).mono ?_; rintro e w1 ⟨rfl, n1, rfl⟩; have X1 := Lib.hid (X.drewN n1); clear i0 i1 i2 i3 i4 i5 i6 u2 u3; have i0 := X1.out.ins.cell 0; have i1 := X1.out.ins.cell 1; have i2 := X1.out.ins.cell 2; have i3 := X1.out.ins.cell 3; have i4 := X1.out.ins.cell 4; have i5 := X1.out.ins.cell 5; have i6 := X1.out.ins.cell 6; clear X HP) | ((with_reducible refine wpList_store_box rfl 27 (.tmp 6) (.tmp 28) rfl (i64s noneOut).toArray X1.out.res ?_ ?_ ?_ ?_ ?_ ?_); (· exact size21 _ (by simp [i64s, noneOut])); (· simp [i64s, noneOut]); (· first | rfl | exact all_one_i64 _); (· rfl); (· rfl); have X9 := Lib.hid (X1.out.rowR (i64s noneOut).toArray)))
        exact bodyPost_ret (results_cell_slot (by rfl) _ _ X9.out.res Tryd.underlying27 rfl (size21 _ (by simp [i64s, noneOut])) rfl) rfl ⟨by rw [HN.out.2, HN.out.1]; exact ret_arr rfl rfl, X9.out.low⟩
    · obtain rfl : j = 21 := by omega
      have HE := Lib.hid (show unitsF f = outs f 21 by unfold unitsF; rw [H.out]; rfl)
      have hl := outs_len f 21
      clear HF
      go_wp2_with (first | ((with_reducible refine wpList_load_box rfl 27 (.tmp 8) rfl X.out Tryd.underlying27 ?_ ?_ ?_ ?_); (· rfl); (· exact size21 _ (by simp [i64s, outs_len])); (· rfl)) | ((with_reducible refine wpList_store_box rfl 27 (.tmp 6) (.tmp 45) rfl (i64s (outs f 21)).toArray X.res ?_ ?_ ?_ ?_ ?_ ?_); (· exact size21 _ (by simp [i64s, outs_len])); (· simp [i64s, outs_len]); (· first | rfl | exact all_one_i64 _); (· rfl); (· rfl); have X9 := Lib.hid (X.rowR (i64s (outs f 21)).toArray)))
      exact bodyPost_ret (results_cell_slot (by rfl) _ _ X9.out.res Tryd.underlying27 rfl (size21 _ (by simp [i64s, outs_len])) rfl) rfl ⟨by rw [HE.out, H.out]; exact ret_arr rfl rfl, X9.out.low⟩

set_option maxHeartbeats 4000000 in
set_option maxRecDepth 100000 in
theorem runits_calls (k u m s x : Int) (c : Bool) (r : Int) (n : ByteArray) (cu p v d : Int) (w : World) :
    Calls Tryd.prog 10 #[instrV k u m s x c r, underV n cu p v, .int .i64 d] w fun e w' =>
      e = .returned (.tuple #[.agg (i64s (unitsF (scenF k s x c p v d))).toArray, .int .i64 (errAt (scenF k s x c p v d) 21)]) ∧ Below w.heap.size w w' := by
  obtain ⟨f, hf⟩ : ∃ f, f = scenF k s x c p v d := ⟨_, rfl⟩
  rw [← hf]
  have HF := Lib.hid (fun j => congrFun hf j)
  unfold instrV underV
  clear hf
  have X := four_new w #[.int .i64 k, .int .i64 u, .int .i64 m, .int .i64 s, .int .i64 x, .bool c, .int .i64 r] #[.string n, .int .i64 cu, .int .i64 p, .int .i64 v] #[.int .i64 0, .int .i64 0, .int .i64 0, .int .i64 0, .int .i64 0, .int .i64 0, .int .i64 0, .int .i64 0, .int .i64 0, .int .i64 0, .int .i64 0, .int .i64 0, .int .i64 0, .int .i64 0, .int .i64 0, .int .i64 0, .int .i64 0, .int .i64 0, .int .i64 0, .int .i64 0, .int .i64 0] #[.int .i64 0, .int .i64 0, .int .i64 0, .int .i64 0, .int .i64 0, .int .i64 0, .int .i64 0, .int .i64 0, .int .i64 0, .int .i64 0, .int .i64 0, .int .i64 0, .int .i64 0, .int .i64 0, .int .i64 0, .int .i64 0, .int .i64 0, .int .i64 0, .int .i64 0, .int .i64 0, .int .i64 0]
  go_enter Tryd.func10, Tryd.ntmps10
  go_upto_region 2 with ((with_reducible refine wpList_store_box rfl 27 (.tmp 8) (.tmp 14) rfl (i64s noneOut).toArray X.out ?_ ?_ ?_ ?_ ?_ ?_); (· exact size21 _ (by simp [i64s, noneOut])); (· simp [i64s, noneOut]); (· exact all_one_i64 _); (· rfl); (· rfl); rw [show (i64s noneOut).toArray = #[.int .i64 0, .int .i64 0, .int .i64 0, .int .i64 0, .int .i64 0, .int .i64 0, .int .i64 0, .int .i64 0, .int .i64 0, .int .i64 0, .int .i64 0, .int .i64 0, .int .i64 0, .int .i64 0, .int .i64 0, .int .i64 0, .int .i64 0, .int .i64 0, .int .i64 0, .int .i64 0, .int .i64 0] from rfl, X.out.rowSelf])
  generalize (((w.alloc (.cells #[.int .i64 k, .int .i64 u, .int .i64 m, .int .i64 s, .int .i64 x, .bool c, .int .i64 r] 23)).alloc (.cells #[.string n, .int .i64 cu, .int .i64 p, .int .i64 v] 25)).alloc (.cells #[.int .i64 0, .int .i64 0, .int .i64 0, .int .i64 0, .int .i64 0, .int .i64 0, .int .i64 0, .int .i64 0, .int .i64 0, .int .i64 0, .int .i64 0, .int .i64 0, .int .i64 0, .int .i64 0, .int .i64 0, .int .i64 0, .int .i64 0, .int .i64 0, .int .i64 0, .int .i64 0, .int .i64 0] 27)).alloc (.cells #[.int .i64 0, .int .i64 0, .int .i64 0, .int .i64 0, .int .i64 0, .int .i64 0, .int .i64 0, .int .i64 0, .int .i64 0, .int .i64 0, .int .i64 0, .int .i64 0, .int .i64 0, .int .i64 0, .int .i64 0, .int .i64 0, .int .i64 0, .int .i64 0, .int .i64 0, .int .i64 0, .int .i64 0] 27) = w0 at X ⊢
  go_wp2_with fail
  go_loopw [9] (fun i wr => ∃ j : Nat, j ≤ 21 ∧ i = .int .i64 j ∧ Four w wr #[.int .i64 k, .int .i64 u, .int .i64 m, .int .i64 s, .int .i64 x, .bool c, .int .i64 r] #[.string n, .int .i64 cu, .int .i64 p, .int .i64 v] #[.int .i64 0, .int .i64 0, .int .i64 0, .int .i64 0, .int .i64 0, .int .i64 0, .int .i64 0, .int .i64 0, .int .i64 0, .int .i64 0, .int .i64 0, .int .i64 0, .int .i64 0, .int .i64 0, .int .i64 0, .int .i64 0, .int .i64 0, .int .i64 0, .int .i64 0, .int .i64 0, .int .i64 0] (i64s (outs f j)).toArray ∧ Hid (errAt f j = 0)) (fun i _ => 21 - (intOf i).toNat)
  case atStart => exact ⟨0, by omega, rfl, by rw [outs_zero]; exact X, rfl⟩
  case round =>
    clear X
    obtain ⟨j, hj, rfl, X, H⟩ := hrel
    by_cases hlt : j < 21
    · have fj := HF.out j
      have i0 := X.ins.cell 0
      have i1 := X.ins.cell 1
      have i2 := X.ins.cell 2
      have i3 := X.ins.cell 3
      have i4 := X.ins.cell 4
      have i5 := X.ins.cell 5
      have i6 := X.ins.cell 6
      have u2 := X.und.cell 2
      have u3 := X.und.cell 3
      by_cases hp : placed p v (j : Int)
      · have hP := fun W => rpoint_calls p v (j : Int) W
        rw [pointF_yes hp] at hP
        have HP := Lib.hid hP
        clear hP
        have fj' : f j = unitF k s x c (pt p (shiftOf j)) (pt v (volOf j)) d := by rw [fj]; unfold scenF; rw [if_pos hp]
        generalize pt p (shiftOf j) = a at *
        generalize pt v (volOf j) = b at *
        have hU := fun W => runit_calls k u m s x c r a b d W
        unfold instrV at hU
        rw [← fj'] at hU
        have hset := outs_set' f j
        have hE := @errAt_on f j H.out
        have hF := @errAt_end f j hlt H.out
        have hget := outs_get f j j hlt
        obtain ⟨q1, h1⟩ : ∃ q1, q1 = (f j).1 := ⟨_, rfl⟩
        obtain ⟨q2, h2⟩ : ∃ q2, q2 = (f j).2 := ⟨_, rfl⟩
        rw [← h1] at hU hset
        rw [← h2] at hU hE hF
        have HS := Lib.hid hset
        have HG := Lib.hid hget
        clear fj fj' hset hget hp h1 h2
        by_cases h0 : q2 = 0
        · have HE := Lib.hid (hE h0)
          subst h0
          have HU := Lib.hid hU
          clear hU hE hF
          go_wp2_with (first | (go_at_call 14; refine (HP.out _).mono ?_; rintro e w1 ⟨rfl, b1⟩; have X1 := Lib.hid (X.keep b1); clear b1; clear i0 i1 i2 i3 i4 i5 i6 u2 u3; have i0 := X1.out.ins.cell 0; have i1 := X1.out.ins.cell 1; have i2 := X1.out.ins.cell 2; have i3 := X1.out.ins.cell 3; have i4 := X1.out.ins.cell 4; have i5 := X1.out.ins.cell 5; have i6 := X1.out.ins.cell 6; clear X HP) | (go_at_call 19; refine (HU.out _).mono ?_; rintro e w2 ⟨rfl, b2⟩; have X2 := Lib.hid (X1.out.keep b2); have o1 := (X2.out.out.cell j).trans HG.out; have fr := X2.out.out.frozen j; clear HU i0 i1 i2 i3 i4 i5 i6 b2 X1))
          go_roundw
          case rel => exact ⟨j + 1, by omega, by go_num, by rw [← HS.out]; exact X2.out.set j _, HE.out⟩
          case measure => simp [intOf]; omega
        · have hb : (q2 != 0) = true := by simpa using h0
          have HN := Lib.hid (hF h0)
          have HU := Lib.hid hU
          clear h0 hU hE hF
          go_wp2_with (first | (go_at_call 14; refine (HP.out _).mono ?_; rintro e w1 ⟨rfl, b1⟩; have X1 := Lib.hid (X.keep b1); clear b1; clear i0 i1 i2 i3 i4 i5 i6 u2 u3; have i0 := X1.out.ins.cell 0; have i1 := X1.out.ins.cell 1; have i2 := X1.out.ins.cell 2; have i3 := X1.out.ins.cell 3; have i4 := X1.out.ins.cell 4; have i5 := X1.out.ins.cell 5; have i6 := X1.out.ins.cell 6; clear X HP) | (go_at_call 19; refine (HU.out _).mono ?_; rintro e w2 ⟨rfl, b2⟩; have X2 := Lib.hid (X1.out.keep b2); have o1 := (X2.out.out.cell j).trans HG.out; have fr := X2.out.out.frozen j; clear HU i0 i1 i2 i3 i4 i5 i6 b2 X1) | ((with_reducible refine wpList_store_box rfl 27 (.tmp 6) (.tmp 43) rfl (i64s noneOut).toArray X2.out.res ?_ ?_ ?_ ?_ ?_ ?_); (· exact size21 _ (by simp [i64s, noneOut])); (· simp [i64s, noneOut]); (· first | rfl | exact all_one_i64 _); (· rfl); (· rfl); have X9 := Lib.hid (X2.out.rowR (i64s noneOut).toArray)))
          exact bodyPost_ret (results_cell_slot (by rfl) _ _ X9.out.res Tryd.underlying27 rfl (size21 _ (by simp [i64s, noneOut])) rfl) rfl ⟨by rw [HN.out.2, HN.out.1]; exact ret_arr rfl rfl, X9.out.low⟩
      · have fj' : f j = (0, 1) := by rw [fj]; unfold scenF; rw [if_neg hp]
        have hF := @errAt_end f j hlt H.out
        rw [fj'] at hF
        have HN := Lib.hid (hF (by decide))
        have HZ := Lib.hid (pointF_no hp)
        clear fj fj' hF hp
        have hP := fun W => rpoint_calls p v (j : Int) W
        rw [HZ.out] at hP
        have HP := Lib.hid hP
        clear hP
        go_wp2_with (first | (go_at_call 14; refine (HP.out _).mono ?_; rintro e w1 ⟨rfl, b1⟩; have X1 := Lib.hid (X.keep b1); clear b1; clear i0 i1 i2 i3 i4 i5 i6 u2 u3; have i0 := X1.out.ins.cell 0; have i1 := X1.out.ins.cell 1; have i2 := X1.out.ins.cell 2; have i3 := X1.out.ins.cell 3; have i4 := X1.out.ins.cell 4; have i5 := X1.out.ins.cell 5; have i6 := X1.out.ins.cell 6; clear X HP) | ((with_reducible refine wpList_store_box rfl 27 (.tmp 6) (.tmp 31) rfl (i64s noneOut).toArray X1.out.res ?_ ?_ ?_ ?_ ?_ ?_); (· exact size21 _ (by simp [i64s, noneOut])); (· simp [i64s, noneOut]); (· first | rfl | exact all_one_i64 _); (· rfl); (· rfl); have X9 := Lib.hid (X1.out.rowR (i64s noneOut).toArray)))
        exact bodyPost_ret (results_cell_slot (by rfl) _ _ X9.out.res Tryd.underlying27 rfl (size21 _ (by simp [i64s, noneOut])) rfl) rfl ⟨by rw [HN.out.2, HN.out.1]; exact ret_arr rfl rfl, X9.out.low⟩
    · obtain rfl : j = 21 := by omega
      have HE := Lib.hid (show unitsF f = outs f 21 by unfold unitsF; rw [H.out]; rfl)
      have hl := outs_len f 21
      clear HF
      go_wp2_with (first | ((with_reducible refine wpList_load_box rfl 27 (.tmp 8) rfl X.out Tryd.underlying27 ?_ ?_ ?_ ?_); (· rfl); (· exact size21 _ (by simp [i64s, outs_len])); (· rfl)) | ((with_reducible refine wpList_store_box rfl 27 (.tmp 6) (.tmp 48) rfl (i64s (outs f 21)).toArray X.res ?_ ?_ ?_ ?_ ?_ ?_); (· exact size21 _ (by simp [i64s, outs_len])); (· simp [i64s, outs_len]); (· first | rfl | exact all_one_i64 _); (· rfl); (· rfl); have X9 := Lib.hid (X.rowR (i64s (outs f 21)).toArray)))
      exact bodyPost_ret (results_cell_slot (by rfl) _ _ X9.out.res Tryd.underlying27 rfl (size21 _ (by simp [i64s, outs_len])) rfl) rfl ⟨by rw [HE.out, H.out]; exact ret_arr rfl rfl, X9.out.low⟩
end Go.Proofs.YtjfcghbifhmacaaDoor.GridW
