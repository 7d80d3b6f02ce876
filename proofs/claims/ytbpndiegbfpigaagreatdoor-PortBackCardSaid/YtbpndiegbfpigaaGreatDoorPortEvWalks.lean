/- The walks of the small functions that Event calls: with, long. -/
import Derived.Test.YtbpndiegbfpigaaGreatDoorPortEvMath
import Derived.Test.YtbpndiegbfpigaaGreatDoorPortWalks
import Derived.Test.YtbpndiegbfpigaaGreatDoorDecParse
import Derived.Test.YtbpndiegbfpigaaGreatDoorBaseRow
namespace Go.Proofs.YtbpndiegbfpigaaGreatDoor.PortW
open Go.RowKit Go.Proofs.YtbpndiegbfpigaaGreatDoor.Bas Go.Proofs.YtbpndiegbfpigaaGreatDoor.DecM Go.Proofs.YtbpndiegbfpigaaGreatDoor.FixpM Go.Proofs.YtbpndiegbfpigaaGreatDoor.FixpW Go.Proofs.YtbpndiegbfpigaaGreatDoor.DecW Go.Proofs.YtbpndiegbfpigaaGreatDoor.FldW Go.Proofs.YtbpndiegbfpigaaGreatDoor.PortM

theorem ParV_zero (t : List UInt8) : ParV t 0 = .tuple #[.int .i64 (parseF t 0).1, .int .i64 (parseF t 0).2] := by
  unfold ParV ParR
  rw [if_neg (by omega)]; rfl
theorem setN_cells (v : Ev) (t x : Int) : (Ev.cells v).setIfInBounds (place t) (.int .i64 x) = Ev.cells (setN v t x) := by
  unfold setN place
  (repeat' split) <;> first | rfl | omega | (simp_all; done)
theorem name_cells (v : Ev) (s : List UInt8) : (Ev.cells v).setIfInBounds 11 (.string ⟨s.toArray⟩) = Ev.cells { v with name := s } := rfl
theorem call_cells (v : Ev) (b : Bool) : (Ev.cells v).setIfInBounds 10 (.bool b) = Ev.cells { v with call := b } := rfl
theorem kind_cells (v : Ev) (k : Int) : (Ev.cells v).setIfInBounds 0 (.int .i64 k) = Ev.cells { v with kind := k } := rfl
theorem ev_size (v : Ev) : (Ev.cells v).size = 12 := rfl
theorem ev_one (v : Ev) : (Ev.cells v).all (·.oneCell') = true := by simp [Ev.cells, Value.oneCell']
theorem size12 (v : Ev) : (Tryz.prog.info? 23).map (·.size) = some (Ev.cells v).size := by
  rw [ev_size]; kernel_rfl
theorem results_cell1 {P : Program} {fn : Func} {p : Tmp} {ty : TypeId} (h : fn.results = #[.cell p ty]) (tmps : Array Value) (w : World) {g : Nat} {t : TypeId} {cs : Array Value} {d : TypeDesc}
    (hg : Box w g t cs) (hu : P.underlying ty = some d) (hd : (match d with | .struct _ | .array _ _ => true | _ => false) = true) (hi : (P.info? ty).map (·.size) = some cs.size)
    (hp : tmps.getD p undef = .pointer (some ⟨g, 0, none⟩)) :
    (results fn tmps).run P w = .ok (.agg cs) w := by
  have hp' : tmps[p]?.getD undef = .pointer (some ⟨g, 0, none⟩) := by simpa using hp
  simp [results, h, hp', asAddr, run_loadVar_row w g t ty cs (0, 0) d hg hu hd hi]
set_option maxHeartbeats 4000000 in
set_option maxRecDepth 20000 in
theorem with_calls (v : Ev) (t x : Int) (w : World) (ht : t = 1 ∨ t = 11 ∨ t = 12 ∨ t = 15 ∨ t = 38 ∨ t = 41 ∨ t = 44 ∨ t = 55 ∨ t = 311) :
    Calls Tryz.prog 23 #[.agg (Ev.cells v), .int .i64 t, .int .i64 x] w fun e w' => e = .returned (.agg (Ev.cells (setN v t x))) ∧ Below w.heap.size w w' := by
  rcases ht with rfl | rfl | rfl | rfl | rfl | rfl | rfl | rfl | rfl
  · go_enter Tryz.func23, Tryz.ntmps23
    have X := (Box.new w 23 (Ev.cells v)).alloc (.cells #[.int .i64 0, .int .i64 0, .int .i64 0, .int .i64 0, .int .i64 0, .int .i64 0, .int .i64 0, .int .i64 0, .int .i64 0, .int .i64 0, .bool false, .string ⟨#[]⟩] 23)
    have Y := Box.new (w.alloc (.cells (Ev.cells v) 23)) 23 #[.int .i64 0, .int .i64 0, .int .i64 0, .int .i64 0, .int .i64 0, .int .i64 0, .int .i64 0, .int .i64 0, .int .i64 0, .int .i64 0, .bool false, .string ⟨#[]⟩]
    have B := ((Below.refl w.heap.size w).alloc (Nat.le_refl _) (.cells (Ev.cells v) 23)).alloc (by simp) (.cells #[.int .i64 0, .int .i64 0, .int .i64 0, .int .i64 0, .int .i64 0, .int .i64 0, .int .i64 0, .int .i64 0, .int .i64 0, .int .i64 0, .bool false, .string ⟨#[]⟩] 23)
    have hs : (w.alloc (.cells (Ev.cells v) 23)).heap.size = w.heap.size + 1 := by simp
    rw [hs] at Y
    go_upto_region 1 with fail
    generalize (w.alloc (.cells (Ev.cells v) 23)).alloc (.cells #[.int .i64 0, .int .i64 0, .int .i64 0, .int .i64 0, .int .i64 0, .int .i64 0, .int .i64 0, .int .i64 0, .int .i64 0, .int .i64 0, .bool false, .string ⟨#[]⟩] 23) = W at *
    have Y : Box W (w.heap.size + 1) 23 (Ev.cells Ev.zero) := Y
    have c : _ = some (Value.int .i64 v.acct) := X.cell 1
    have f := X.frozen 1
    have S := Box.set X 1 (.int .i64 x)
    rw [show (Ev.cells v).setIfInBounds 1 (.int .i64 x) = Ev.cells (setN v 1 x) from rfl] at S
    have YS := Box.far Y (p := ⟨w.heap.size, 1, none⟩) (by simp) (.int .i64 x)
    go_wp2_with (first | ((with_reducible refine wpList_load_box rfl 23 (.tmp 3) rfl S Tryz.underlying23 ?_ ?_ ?_ ?_); (· rfl); (· exact size12 _); (· rfl)) | ((with_reducible refine wpList_store_box rfl 23 (.tmp 6) (.tmp 44) rfl (Ev.cells (setN v 1 x)) YS ?_ ?_ ?_ ?_ ?_ ?_); (· exact size12 _); (· rfl); (· exact ev_one _); (· rfl); (· rfl)))
    exact bodyPost_ret (results_cell1 (by rfl) _ _ (Box.row YS _) Tryz.underlying23 rfl (size12 _) rfl) rfl ⟨rfl, below_setRow (B.setCell (p := ⟨w.heap.size, 1, none⟩) (Nat.le_refl _) (.int .i64 x)) (Nat.le_succ _) _⟩
  · go_enter Tryz.func23, Tryz.ntmps23
    have X := (Box.new w 23 (Ev.cells v)).alloc (.cells #[.int .i64 0, .int .i64 0, .int .i64 0, .int .i64 0, .int .i64 0, .int .i64 0, .int .i64 0, .int .i64 0, .int .i64 0, .int .i64 0, .bool false, .string ⟨#[]⟩] 23)
    have Y := Box.new (w.alloc (.cells (Ev.cells v) 23)) 23 #[.int .i64 0, .int .i64 0, .int .i64 0, .int .i64 0, .int .i64 0, .int .i64 0, .int .i64 0, .int .i64 0, .int .i64 0, .int .i64 0, .bool false, .string ⟨#[]⟩]
    have B := ((Below.refl w.heap.size w).alloc (Nat.le_refl _) (.cells (Ev.cells v) 23)).alloc (by simp) (.cells #[.int .i64 0, .int .i64 0, .int .i64 0, .int .i64 0, .int .i64 0, .int .i64 0, .int .i64 0, .int .i64 0, .int .i64 0, .int .i64 0, .bool false, .string ⟨#[]⟩] 23)
    have hs : (w.alloc (.cells (Ev.cells v) 23)).heap.size = w.heap.size + 1 := by simp
    rw [hs] at Y
    go_upto_region 1 with fail
    generalize (w.alloc (.cells (Ev.cells v) 23)).alloc (.cells #[.int .i64 0, .int .i64 0, .int .i64 0, .int .i64 0, .int .i64 0, .int .i64 0, .int .i64 0, .int .i64 0, .int .i64 0, .int .i64 0, .bool false, .string ⟨#[]⟩] 23) = W at *
    have Y : Box W (w.heap.size + 1) 23 (Ev.cells Ev.zero) := Y
    have c : _ = some (Value.int .i64 v.id) := X.cell 2
    have f := X.frozen 2
    have S := Box.set X 2 (.int .i64 x)
    rw [show (Ev.cells v).setIfInBounds 2 (.int .i64 x) = Ev.cells (setN v 11 x) from rfl] at S
    have YS := Box.far Y (p := ⟨w.heap.size, 2, none⟩) (by simp) (.int .i64 x)
    go_wp2_with (first | ((with_reducible refine wpList_load_box rfl 23 (.tmp 3) rfl S Tryz.underlying23 ?_ ?_ ?_ ?_); (· rfl); (· exact size12 _); (· rfl)) | ((with_reducible refine wpList_store_box rfl 23 (.tmp 6) (.tmp 44) rfl (Ev.cells (setN v 11 x)) YS ?_ ?_ ?_ ?_ ?_ ?_); (· exact size12 _); (· rfl); (· exact ev_one _); (· rfl); (· rfl)))
    exact bodyPost_ret (results_cell1 (by rfl) _ _ (Box.row YS _) Tryz.underlying23 rfl (size12 _) rfl) rfl ⟨rfl, below_setRow (B.setCell (p := ⟨w.heap.size, 2, none⟩) (Nat.le_refl _) (.int .i64 x)) (Nat.le_succ _) _⟩
  · go_enter Tryz.func23, Tryz.ntmps23
    have X := (Box.new w 23 (Ev.cells v)).alloc (.cells #[.int .i64 0, .int .i64 0, .int .i64 0, .int .i64 0, .int .i64 0, .int .i64 0, .int .i64 0, .int .i64 0, .int .i64 0, .int .i64 0, .bool false, .string ⟨#[]⟩] 23)
    have Y := Box.new (w.alloc (.cells (Ev.cells v) 23)) 23 #[.int .i64 0, .int .i64 0, .int .i64 0, .int .i64 0, .int .i64 0, .int .i64 0, .int .i64 0, .int .i64 0, .int .i64 0, .int .i64 0, .bool false, .string ⟨#[]⟩]
    have B := ((Below.refl w.heap.size w).alloc (Nat.le_refl _) (.cells (Ev.cells v) 23)).alloc (by simp) (.cells #[.int .i64 0, .int .i64 0, .int .i64 0, .int .i64 0, .int .i64 0, .int .i64 0, .int .i64 0, .int .i64 0, .int .i64 0, .int .i64 0, .bool false, .string ⟨#[]⟩] 23)
    have hs : (w.alloc (.cells (Ev.cells v) 23)).heap.size = w.heap.size + 1 := by simp
    rw [hs] at Y
    go_upto_region 1 with fail
    generalize (w.alloc (.cells (Ev.cells v) 23)).alloc (.cells #[.int .i64 0, .int .i64 0, .int .i64 0, .int .i64 0, .int .i64 0, .int .i64 0, .int .i64 0, .int .i64 0, .int .i64 0, .int .i64 0, .bool false, .string ⟨#[]⟩] 23) = W at *
    have Y : Box W (w.heap.size + 1) 23 (Ev.cells Ev.zero) := Y
    have c : _ = some (Value.int .i64 v.amount) := X.cell 9
    have f := X.frozen 9
    have S := Box.set X 9 (.int .i64 x)
    rw [show (Ev.cells v).setIfInBounds 9 (.int .i64 x) = Ev.cells (setN v 12 x) from rfl] at S
    have YS := Box.far Y (p := ⟨w.heap.size, 9, none⟩) (by simp) (.int .i64 x)
    go_wp2_with (first | ((with_reducible refine wpList_load_box rfl 23 (.tmp 3) rfl S Tryz.underlying23 ?_ ?_ ?_ ?_); (· rfl); (· exact size12 _); (· rfl)) | ((with_reducible refine wpList_store_box rfl 23 (.tmp 6) (.tmp 44) rfl (Ev.cells (setN v 12 x)) YS ?_ ?_ ?_ ?_ ?_ ?_); (· exact size12 _); (· rfl); (· exact ev_one _); (· rfl); (· rfl)))
    exact bodyPost_ret (results_cell1 (by rfl) _ _ (Box.row YS _) Tryz.underlying23 rfl (size12 _) rfl) rfl ⟨rfl, below_setRow (B.setCell (p := ⟨w.heap.size, 9, none⟩) (Nat.le_refl _) (.int .i64 x)) (Nat.le_succ _) _⟩
  · go_enter Tryz.func23, Tryz.ntmps23
    have X := (Box.new w 23 (Ev.cells v)).alloc (.cells #[.int .i64 0, .int .i64 0, .int .i64 0, .int .i64 0, .int .i64 0, .int .i64 0, .int .i64 0, .int .i64 0, .int .i64 0, .int .i64 0, .bool false, .string ⟨#[]⟩] 23)
    have Y := Box.new (w.alloc (.cells (Ev.cells v) 23)) 23 #[.int .i64 0, .int .i64 0, .int .i64 0, .int .i64 0, .int .i64 0, .int .i64 0, .int .i64 0, .int .i64 0, .int .i64 0, .int .i64 0, .bool false, .string ⟨#[]⟩]
    have B := ((Below.refl w.heap.size w).alloc (Nat.le_refl _) (.cells (Ev.cells v) 23)).alloc (by simp) (.cells #[.int .i64 0, .int .i64 0, .int .i64 0, .int .i64 0, .int .i64 0, .int .i64 0, .int .i64 0, .int .i64 0, .int .i64 0, .int .i64 0, .bool false, .string ⟨#[]⟩] 23)
    have hs : (w.alloc (.cells (Ev.cells v) 23)).heap.size = w.heap.size + 1 := by simp
    rw [hs] at Y
    go_upto_region 1 with fail
    generalize (w.alloc (.cells (Ev.cells v) 23)).alloc (.cells #[.int .i64 0, .int .i64 0, .int .i64 0, .int .i64 0, .int .i64 0, .int .i64 0, .int .i64 0, .int .i64 0, .int .i64 0, .int .i64 0, .bool false, .string ⟨#[]⟩] 23) = W at *
    have Y : Box W (w.heap.size + 1) 23 (Ev.cells Ev.zero) := Y
    have c : _ = some (Value.int .i64 v.cur) := X.cell 6
    have f := X.frozen 6
    have S := Box.set X 6 (.int .i64 x)
    rw [show (Ev.cells v).setIfInBounds 6 (.int .i64 x) = Ev.cells (setN v 15 x) from rfl] at S
    have YS := Box.far Y (p := ⟨w.heap.size, 6, none⟩) (by simp) (.int .i64 x)
    go_wp2_with (first | ((with_reducible refine wpList_load_box rfl 23 (.tmp 3) rfl S Tryz.underlying23 ?_ ?_ ?_ ?_); (· rfl); (· exact size12 _); (· rfl)) | ((with_reducible refine wpList_store_box rfl 23 (.tmp 6) (.tmp 44) rfl (Ev.cells (setN v 15 x)) YS ?_ ?_ ?_ ?_ ?_ ?_); (· exact size12 _); (· rfl); (· exact ev_one _); (· rfl); (· rfl)))
    exact bodyPost_ret (results_cell1 (by rfl) _ _ (Box.row YS _) Tryz.underlying23 rfl (size12 _) rfl) rfl ⟨rfl, below_setRow (B.setCell (p := ⟨w.heap.size, 6, none⟩) (Nat.le_refl _) (.int .i64 x)) (Nat.le_succ _) _⟩
  · go_enter Tryz.func23, Tryz.ntmps23
    have X := (Box.new w 23 (Ev.cells v)).alloc (.cells #[.int .i64 0, .int .i64 0, .int .i64 0, .int .i64 0, .int .i64 0, .int .i64 0, .int .i64 0, .int .i64 0, .int .i64 0, .int .i64 0, .bool false, .string ⟨#[]⟩] 23)
    have Y := Box.new (w.alloc (.cells (Ev.cells v) 23)) 23 #[.int .i64 0, .int .i64 0, .int .i64 0, .int .i64 0, .int .i64 0, .int .i64 0, .int .i64 0, .int .i64 0, .int .i64 0, .int .i64 0, .bool false, .string ⟨#[]⟩]
    have B := ((Below.refl w.heap.size w).alloc (Nat.le_refl _) (.cells (Ev.cells v) 23)).alloc (by simp) (.cells #[.int .i64 0, .int .i64 0, .int .i64 0, .int .i64 0, .int .i64 0, .int .i64 0, .int .i64 0, .int .i64 0, .int .i64 0, .int .i64 0, .bool false, .string ⟨#[]⟩] 23)
    have hs : (w.alloc (.cells (Ev.cells v) 23)).heap.size = w.heap.size + 1 := by simp
    rw [hs] at Y
    go_upto_region 1 with fail
    generalize (w.alloc (.cells (Ev.cells v) 23)).alloc (.cells #[.int .i64 0, .int .i64 0, .int .i64 0, .int .i64 0, .int .i64 0, .int .i64 0, .int .i64 0, .int .i64 0, .int .i64 0, .int .i64 0, .bool false, .string ⟨#[]⟩] 23) = W at *
    have Y : Box W (w.heap.size + 1) 23 (Ev.cells Ev.zero) := Y
    have c : _ = some (Value.int .i64 v.qty) := X.cell 7
    have f := X.frozen 7
    have S := Box.set X 7 (.int .i64 x)
    rw [show (Ev.cells v).setIfInBounds 7 (.int .i64 x) = Ev.cells (setN v 38 x) from rfl] at S
    have YS := Box.far Y (p := ⟨w.heap.size, 7, none⟩) (by simp) (.int .i64 x)
    go_wp2_with (first | ((with_reducible refine wpList_load_box rfl 23 (.tmp 3) rfl S Tryz.underlying23 ?_ ?_ ?_ ?_); (· rfl); (· exact size12 _); (· rfl)) | ((with_reducible refine wpList_store_box rfl 23 (.tmp 6) (.tmp 44) rfl (Ev.cells (setN v 38 x)) YS ?_ ?_ ?_ ?_ ?_ ?_); (· exact size12 _); (· rfl); (· exact ev_one _); (· rfl); (· rfl)))
    exact bodyPost_ret (results_cell1 (by rfl) _ _ (Box.row YS _) Tryz.underlying23 rfl (size12 _) rfl) rfl ⟨rfl, below_setRow (B.setCell (p := ⟨w.heap.size, 7, none⟩) (Nat.le_refl _) (.int .i64 x)) (Nat.le_succ _) _⟩
  · go_enter Tryz.func23, Tryz.ntmps23
    have X := (Box.new w 23 (Ev.cells v)).alloc (.cells #[.int .i64 0, .int .i64 0, .int .i64 0, .int .i64 0, .int .i64 0, .int .i64 0, .int .i64 0, .int .i64 0, .int .i64 0, .int .i64 0, .bool false, .string ⟨#[]⟩] 23)
    have Y := Box.new (w.alloc (.cells (Ev.cells v) 23)) 23 #[.int .i64 0, .int .i64 0, .int .i64 0, .int .i64 0, .int .i64 0, .int .i64 0, .int .i64 0, .int .i64 0, .int .i64 0, .int .i64 0, .bool false, .string ⟨#[]⟩]
    have B := ((Below.refl w.heap.size w).alloc (Nat.le_refl _) (.cells (Ev.cells v) 23)).alloc (by simp) (.cells #[.int .i64 0, .int .i64 0, .int .i64 0, .int .i64 0, .int .i64 0, .int .i64 0, .int .i64 0, .int .i64 0, .int .i64 0, .int .i64 0, .bool false, .string ⟨#[]⟩] 23)
    have hs : (w.alloc (.cells (Ev.cells v) 23)).heap.size = w.heap.size + 1 := by simp
    rw [hs] at Y
    go_upto_region 1 with fail
    generalize (w.alloc (.cells (Ev.cells v) 23)).alloc (.cells #[.int .i64 0, .int .i64 0, .int .i64 0, .int .i64 0, .int .i64 0, .int .i64 0, .int .i64 0, .int .i64 0, .int .i64 0, .int .i64 0, .bool false, .string ⟨#[]⟩] 23) = W at *
    have Y : Box W (w.heap.size + 1) 23 (Ev.cells Ev.zero) := Y
    have c : _ = some (Value.int .i64 v.new) := X.cell 3
    have f := X.frozen 3
    have S := Box.set X 3 (.int .i64 x)
    rw [show (Ev.cells v).setIfInBounds 3 (.int .i64 x) = Ev.cells (setN v 41 x) from rfl] at S
    have YS := Box.far Y (p := ⟨w.heap.size, 3, none⟩) (by simp) (.int .i64 x)
    go_wp2_with (first | ((with_reducible refine wpList_load_box rfl 23 (.tmp 3) rfl S Tryz.underlying23 ?_ ?_ ?_ ?_); (· rfl); (· exact size12 _); (· rfl)) | ((with_reducible refine wpList_store_box rfl 23 (.tmp 6) (.tmp 44) rfl (Ev.cells (setN v 41 x)) YS ?_ ?_ ?_ ?_ ?_ ?_); (· exact size12 _); (· rfl); (· exact ev_one _); (· rfl); (· rfl)))
    exact bodyPost_ret (results_cell1 (by rfl) _ _ (Box.row YS _) Tryz.underlying23 rfl (size12 _) rfl) rfl ⟨rfl, below_setRow (B.setCell (p := ⟨w.heap.size, 3, none⟩) (Nat.le_refl _) (.int .i64 x)) (Nat.le_succ _) _⟩
  · go_enter Tryz.func23, Tryz.ntmps23
    have X := (Box.new w 23 (Ev.cells v)).alloc (.cells #[.int .i64 0, .int .i64 0, .int .i64 0, .int .i64 0, .int .i64 0, .int .i64 0, .int .i64 0, .int .i64 0, .int .i64 0, .int .i64 0, .bool false, .string ⟨#[]⟩] 23)
    have Y := Box.new (w.alloc (.cells (Ev.cells v) 23)) 23 #[.int .i64 0, .int .i64 0, .int .i64 0, .int .i64 0, .int .i64 0, .int .i64 0, .int .i64 0, .int .i64 0, .int .i64 0, .int .i64 0, .bool false, .string ⟨#[]⟩]
    have B := ((Below.refl w.heap.size w).alloc (Nat.le_refl _) (.cells (Ev.cells v) 23)).alloc (by simp) (.cells #[.int .i64 0, .int .i64 0, .int .i64 0, .int .i64 0, .int .i64 0, .int .i64 0, .int .i64 0, .int .i64 0, .int .i64 0, .int .i64 0, .bool false, .string ⟨#[]⟩] 23)
    have hs : (w.alloc (.cells (Ev.cells v) 23)).heap.size = w.heap.size + 1 := by simp
    rw [hs] at Y
    go_upto_region 1 with fail
    generalize (w.alloc (.cells (Ev.cells v) 23)).alloc (.cells #[.int .i64 0, .int .i64 0, .int .i64 0, .int .i64 0, .int .i64 0, .int .i64 0, .int .i64 0, .int .i64 0, .int .i64 0, .int .i64 0, .bool false, .string ⟨#[]⟩] 23) = W at *
    have Y : Box W (w.heap.size + 1) 23 (Ev.cells Ev.zero) := Y
    have c : _ = some (Value.int .i64 v.price) := X.cell 8
    have f := X.frozen 8
    have S := Box.set X 8 (.int .i64 x)
    rw [show (Ev.cells v).setIfInBounds 8 (.int .i64 x) = Ev.cells (setN v 44 x) from rfl] at S
    have YS := Box.far Y (p := ⟨w.heap.size, 8, none⟩) (by simp) (.int .i64 x)
    go_wp2_with (first | ((with_reducible refine wpList_load_box rfl 23 (.tmp 3) rfl S Tryz.underlying23 ?_ ?_ ?_ ?_); (· rfl); (· exact size12 _); (· rfl)) | ((with_reducible refine wpList_store_box rfl 23 (.tmp 6) (.tmp 44) rfl (Ev.cells (setN v 44 x)) YS ?_ ?_ ?_ ?_ ?_ ?_); (· exact size12 _); (· rfl); (· exact ev_one _); (· rfl); (· rfl)))
    exact bodyPost_ret (results_cell1 (by rfl) _ _ (Box.row YS _) Tryz.underlying23 rfl (size12 _) rfl) rfl ⟨rfl, below_setRow (B.setCell (p := ⟨w.heap.size, 8, none⟩) (Nat.le_refl _) (.int .i64 x)) (Nat.le_succ _) _⟩
  · go_enter Tryz.func23, Tryz.ntmps23
    have X := (Box.new w 23 (Ev.cells v)).alloc (.cells #[.int .i64 0, .int .i64 0, .int .i64 0, .int .i64 0, .int .i64 0, .int .i64 0, .int .i64 0, .int .i64 0, .int .i64 0, .int .i64 0, .bool false, .string ⟨#[]⟩] 23)
    have Y := Box.new (w.alloc (.cells (Ev.cells v) 23)) 23 #[.int .i64 0, .int .i64 0, .int .i64 0, .int .i64 0, .int .i64 0, .int .i64 0, .int .i64 0, .int .i64 0, .int .i64 0, .int .i64 0, .bool false, .string ⟨#[]⟩]
    have B := ((Below.refl w.heap.size w).alloc (Nat.le_refl _) (.cells (Ev.cells v) 23)).alloc (by simp) (.cells #[.int .i64 0, .int .i64 0, .int .i64 0, .int .i64 0, .int .i64 0, .int .i64 0, .int .i64 0, .int .i64 0, .int .i64 0, .int .i64 0, .bool false, .string ⟨#[]⟩] 23)
    have hs : (w.alloc (.cells (Ev.cells v) 23)).heap.size = w.heap.size + 1 := by simp
    rw [hs] at Y
    go_upto_region 1 with fail
    generalize (w.alloc (.cells (Ev.cells v) 23)).alloc (.cells #[.int .i64 0, .int .i64 0, .int .i64 0, .int .i64 0, .int .i64 0, .int .i64 0, .int .i64 0, .int .i64 0, .int .i64 0, .int .i64 0, .bool false, .string ⟨#[]⟩] 23) = W at *
    have Y : Box W (w.heap.size + 1) 23 (Ev.cells Ev.zero) := Y
    have c : _ = some (Value.int .i64 v.instr) := X.cell 4
    have f := X.frozen 4
    have S := Box.set X 4 (.int .i64 x)
    rw [show (Ev.cells v).setIfInBounds 4 (.int .i64 x) = Ev.cells (setN v 55 x) from rfl] at S
    have YS := Box.far Y (p := ⟨w.heap.size, 4, none⟩) (by simp) (.int .i64 x)
    go_wp2_with (first | ((with_reducible refine wpList_load_box rfl 23 (.tmp 3) rfl S Tryz.underlying23 ?_ ?_ ?_ ?_); (· rfl); (· exact size12 _); (· rfl)) | ((with_reducible refine wpList_store_box rfl 23 (.tmp 6) (.tmp 44) rfl (Ev.cells (setN v 55 x)) YS ?_ ?_ ?_ ?_ ?_ ?_); (· exact size12 _); (· rfl); (· exact ev_one _); (· rfl); (· rfl)))
    exact bodyPost_ret (results_cell1 (by rfl) _ _ (Box.row YS _) Tryz.underlying23 rfl (size12 _) rfl) rfl ⟨rfl, below_setRow (B.setCell (p := ⟨w.heap.size, 4, none⟩) (Nat.le_refl _) (.int .i64 x)) (Nat.le_succ _) _⟩
  · go_enter Tryz.func23, Tryz.ntmps23
    have X := (Box.new w 23 (Ev.cells v)).alloc (.cells #[.int .i64 0, .int .i64 0, .int .i64 0, .int .i64 0, .int .i64 0, .int .i64 0, .int .i64 0, .int .i64 0, .int .i64 0, .int .i64 0, .bool false, .string ⟨#[]⟩] 23)
    have Y := Box.new (w.alloc (.cells (Ev.cells v) 23)) 23 #[.int .i64 0, .int .i64 0, .int .i64 0, .int .i64 0, .int .i64 0, .int .i64 0, .int .i64 0, .int .i64 0, .int .i64 0, .int .i64 0, .bool false, .string ⟨#[]⟩]
    have B := ((Below.refl w.heap.size w).alloc (Nat.le_refl _) (.cells (Ev.cells v) 23)).alloc (by simp) (.cells #[.int .i64 0, .int .i64 0, .int .i64 0, .int .i64 0, .int .i64 0, .int .i64 0, .int .i64 0, .int .i64 0, .int .i64 0, .int .i64 0, .bool false, .string ⟨#[]⟩] 23)
    have hs : (w.alloc (.cells (Ev.cells v) 23)).heap.size = w.heap.size + 1 := by simp
    rw [hs] at Y
    go_upto_region 1 with fail
    generalize (w.alloc (.cells (Ev.cells v) 23)).alloc (.cells #[.int .i64 0, .int .i64 0, .int .i64 0, .int .i64 0, .int .i64 0, .int .i64 0, .int .i64 0, .int .i64 0, .int .i64 0, .int .i64 0, .bool false, .string ⟨#[]⟩] 23) = W at *
    have Y : Box W (w.heap.size + 1) 23 (Ev.cells Ev.zero) := Y
    have c : _ = some (Value.int .i64 v.under) := X.cell 5
    have f := X.frozen 5
    have S := Box.set X 5 (.int .i64 x)
    rw [show (Ev.cells v).setIfInBounds 5 (.int .i64 x) = Ev.cells (setN v 311 x) from rfl] at S
    have YS := Box.far Y (p := ⟨w.heap.size, 5, none⟩) (by simp) (.int .i64 x)
    go_wp2_with (first | ((with_reducible refine wpList_load_box rfl 23 (.tmp 3) rfl S Tryz.underlying23 ?_ ?_ ?_ ?_); (· rfl); (· exact size12 _); (· rfl)) | ((with_reducible refine wpList_store_box rfl 23 (.tmp 6) (.tmp 44) rfl (Ev.cells (setN v 311 x)) YS ?_ ?_ ?_ ?_ ?_ ?_); (· exact size12 _); (· rfl); (· exact ev_one _); (· rfl); (· rfl)))
    exact bodyPost_ret (results_cell1 (by rfl) _ _ (Box.row YS _) Tryz.underlying23 rfl (size12 _) rfl) rfl ⟨rfl, below_setRow (B.setCell (p := ⟨w.heap.size, 5, none⟩) (Nat.le_refl _) (.int .i64 x)) (Nat.le_succ _) _⟩
end Go.Proofs.YtbpndiegbfpigaaGreatDoor.PortW
