/- LedgerNames: the walk, and the step from the law's arguments to it. -/
import Derived.Test.YtmimhimlgbklpaaDoorLedB
set_option linter.unusedSimpArgs false
set_option linter.unusedVariables false
namespace Go.Proofs.YtmimhimlgbklpaaDoor.ledgerNames
open Go.ChangeShapes Go.WideShapes Go.ChangeAt Go.RowKit Go.Proofs.YtmimhimlgbklpaaDoor.Bas Go.Proofs.YtmimhimlgbklpaaDoor.LedM Go.Proofs.YtmimhimlgbklpaaDoor.LedW

def mkU (s : List UInt8) : Und := ⟨s, 0, 0, 0⟩
theorem idx_map (nm : List UInt8) (xs : List (List UInt8)) : idxF (fun u : Und => decide (u.name = nm)) (xs.map mkU) = idxF (fun s : List UInt8 => decide (s = nm)) xs := by
  unfold idxF
  rw [List.findIdx?_map]
  rfl
theorem idx_next {α : Type} {p : α → Bool} {xs : List α} {k : Nat} (hk : k < xs.length) : idxF p (xs.take (k + 1)) = if idxF p (xs.take k) < 0 ∧ p xs[k] = true then (k : Int) else idxF p (xs.take k) := by
  unfold idxF
  rw [List.take_succ_eq_append_getElem hk, List.findIdx?_append]
  cases h : (xs.take k).findIdx? p with
  | some i => simp; omega
  | none =>
    cases hp : p xs[k] with
    | true => simp [List.findIdx?_cons, hp]; omega
    | false => simp [List.findIdx?_cons, hp]
theorem und_cells (xs : List (List UInt8)) {k : Nat} (hk : k < xs.length) : ((xs.take (k + 1)).map mkU).flatMap undC = ((xs.take k).map mkU).flatMap undC ++ [.string ⟨xs[k].toArray⟩, .int .i64 0, .int .i64 0, .int .i64 0] := by
  rw [List.take_succ_eq_append_getElem hk, List.map_append, List.flatMap_append]
  rfl
set_option maxHeartbeats 2000000 in
set_option maxRecDepth 100000 in
theorem walk (a : Option Addr) (cap : Nat) (xs : List (List UInt8)) (nm : List UInt8) (w : World) (hat : At w a (xs.flatMap strC)) (hbig : xs.length ≤ 140737488351232) :
    Calls Tryd.prog 3 #[.slice a xs.length cap, .string ⟨nm.toArray⟩] w fun e w' => e = .returned (.bool true) ∧ Below w.heap.size w w' := by
  have HAt := Lib.hid hat
  have D0 := Lib.hid (fun W => lwakes_calls W)
  clear hat
  go_enter Tryd.func3, Tryd.ntmps3
  by_cases hw : 512 < xs.length
  · go_wp2_with (go_at_call 8; refine (D0.out _).mono ?_; rintro e w1 ⟨rfl, b1⟩)
    go_ret
    exact ⟨rfl, b1⟩
  go_wp2_with (go_at_call 8; refine (D0.out _).mono ?_; rintro e w1 ⟨rfl, b1⟩)
  go_loopw [5, 6, 16] (fun u x i wr => ∃ (k : Nat) (z : Int), k ≤ xs.length ∧ i = .int .i64 (k : Int) ∧ x = .int .i64 z ∧ Hid (z = idxF (fun s : List UInt8 => decide (s = nm)) (xs.take k)) ∧ wr.ownsRow w.heap.size 26 4 u k (((xs.take k).map mkU).flatMap undC) ∧ Below w.heap.size w wr) (fun _ _ i _ => xs.length - (intOf i).toNat)
  case atStart => exact ⟨0, -1, by omega, rfl, rfl, rfl, World.ownsRow_nil _ _ _ _, b1⟩
  case round =>
    clear b1
    obtain ⟨k, z, hk, rfl, rfl, HZ, HO, HB⟩ := hrel
    obtain ⟨pu, qu, rfl, _, _, hatu, _, _⟩ := at_of_owns HO
    by_cases hlt : k < xs.length
    · obtain ⟨b, off, ha, C1⟩ := rec_at len_str (by decide) (HAt.out.keep HB) hlt
      have c0 := C1 0 _ rfl
      clear C1
      simp only [Nat.mul_one, Nat.add_zero] at c0
      have HI := Lib.hid (idx_next (p := fun s : List UInt8 => decide (s = nm)) hlt)
      have HU := Lib.hid (und_cells xs hlt)
      have HOw := Lib.hid HO
      have HBw := Lib.hid HB
      have hz := HB.size
      rw [← HZ.out] at HI
      clear HO HB hatu HZ
      generalize xs[k] = x at *
      rw [ha]
      clear ha
      have hAl := Lib.hid (at_alloc wr #[.string ⟨x.toArray⟩, .int .i64 0, .int .i64 0, .int .i64 0] 26 (0, 0))
      by_cases hx : x = nm
      · have hxd := decide_eq_true hx
        subst hx
        by_cases hz0 : z < 0
        · have HX := HI.out
          rw [if_pos ⟨hz0, hxd⟩] at HX
          have HXh := Lib.hid HX
          clear HI HX hxd
          go_wp2_with (at_builtin; refine wpList_append_at _ rfl (.tmp 21) (.tmp 24) elem_und rfl w.heap.size (.slice pu k qu) k (((xs.take k).map mkU).flatMap undC) rfl (HOw.out.alloc _) (some ⟨wr.heap.size, 0, none⟩) 1 1 [.string ⟨x.toArray⟩, .int .i64 0, .int .i64 0, .int .i64 0] rfl rfl hAl.out (by simp [Value.oneCell']) (by unfold maxLen; omega) (by omega) (by simp; omega) ?_; intro v4 w4 own4 bel4' g4 _; have bel4 := ((Below.refl w.heap.size wr).alloc hz (.cells #[.string ⟨x.toArray⟩, .int .i64 0, .int .i64 0, .int .i64 0] 26)).trans bel4')
          go_roundw
          case rel => exact ⟨k + 1, k, by omega, by go_num, rfl, HXh.out.symm, by rw [HU.out]; exact own4, HBw.out.trans bel4⟩
          case measure => simp [intOf]; omega
        · have HX := HI.out
          rw [if_neg (fun h => hz0 h.1)] at HX
          have HXh := Lib.hid HX
          clear HI HX hxd
          go_wp2_with (at_builtin; refine wpList_append_at _ rfl (.tmp 21) (.tmp 24) elem_und rfl w.heap.size (.slice pu k qu) k (((xs.take k).map mkU).flatMap undC) rfl (HOw.out.alloc _) (some ⟨wr.heap.size, 0, none⟩) 1 1 [.string ⟨x.toArray⟩, .int .i64 0, .int .i64 0, .int .i64 0] rfl rfl hAl.out (by simp [Value.oneCell']) (by unfold maxLen; omega) (by omega) (by simp; omega) ?_; intro v4 w4 own4 bel4' g4 _; have bel4 := ((Below.refl w.heap.size wr).alloc hz (.cells #[.string ⟨x.toArray⟩, .int .i64 0, .int .i64 0, .int .i64 0] 26)).trans bel4')
          go_roundw
          case rel => exact ⟨k + 1, z, by omega, by go_num, rfl, HXh.out.symm, by rw [HU.out]; exact own4, HBw.out.trans bel4⟩
          case measure => simp [intOf]; omega
      · have HX := HI.out
        rw [if_neg (fun h => hx (of_decide_eq_true h.2))] at HX
        have HXh := Lib.hid HX
        have hxb : (x == nm) = false := by simpa using hx
        clear HI HX
        by_cases hz0 : z < 0
        · go_wp2_with (at_builtin; refine wpList_append_at _ rfl (.tmp 21) (.tmp 24) elem_und rfl w.heap.size (.slice pu k qu) k (((xs.take k).map mkU).flatMap undC) rfl (HOw.out.alloc _) (some ⟨wr.heap.size, 0, none⟩) 1 1 [.string ⟨x.toArray⟩, .int .i64 0, .int .i64 0, .int .i64 0] rfl rfl hAl.out (by simp [Value.oneCell']) (by unfold maxLen; omega) (by omega) (by simp; omega) ?_; intro v4 w4 own4 bel4' g4 _; have bel4 := ((Below.refl w.heap.size wr).alloc hz (.cells #[.string ⟨x.toArray⟩, .int .i64 0, .int .i64 0, .int .i64 0] 26)).trans bel4')
          go_roundw
          case rel => exact ⟨k + 1, z, by omega, by go_num, rfl, HXh.out.symm, by rw [HU.out]; exact own4, HBw.out.trans bel4⟩
          case measure => simp [intOf]; omega
        · go_wp2_with (at_builtin; refine wpList_append_at _ rfl (.tmp 21) (.tmp 24) elem_und rfl w.heap.size (.slice pu k qu) k (((xs.take k).map mkU).flatMap undC) rfl (HOw.out.alloc _) (some ⟨wr.heap.size, 0, none⟩) 1 1 [.string ⟨x.toArray⟩, .int .i64 0, .int .i64 0, .int .i64 0] rfl rfl hAl.out (by simp [Value.oneCell']) (by unfold maxLen; omega) (by omega) (by simp; omega) ?_; intro v4 w4 own4 bel4' g4 _; have bel4 := ((Below.refl w.heap.size wr).alloc hz (.cells #[.string ⟨x.toArray⟩, .int .i64 0, .int .i64 0, .int .i64 0] 26)).trans bel4')
          go_roundw
          case rel => exact ⟨k + 1, z, by omega, by go_num, rfl, HXh.out.symm, by rw [HU.out]; exact own4, HBw.out.trans bel4⟩
          case measure => simp [intOf]; omega
    · obtain rfl : k = xs.length := by omega
      rw [List.take_length] at HZ hatu
      have hl : (xs.map mkU).length = xs.length := List.length_map _
      have C := Lib.hid (named_calls pu qu (xs.map mkU) nm wr (by omega) hatu)
      rw [hl, idx_map, ← HZ.out] at C
      clear HZ hatu HO
      go_wp2_with (go_at_call 9; refine C.out.mono ?_; rintro e w5 ⟨rfl, b5⟩)
      go_ret
      exact ⟨ret_bool (by simp), HB.trans (b5.mono HB.size)⟩

set_option maxRecDepth 100000 in
theorem opened (H : Type) (enc : TypeId × Value → H) (W : World) (base : Nat) (args : Array Value) (ds : List (DataW H)) (p : List MemPlace)
    (hval : ∀ (j : Nat) t v, Tryd.f3.params[j]? = some t → args[j]? = some v → Value.okWide Tryd.prog W .any base t v)
    (hA : DataW.TrodAll enc Tryd.prog W 0 (fun _ => true) true Tryd.f3.params.toList args.toList ds p)
    (hr : ∀ x ∈ DataW.weightsEach Tryd.prog Tryd.f3.params.toList ds, x ≤ reachBytes)
    (hL : laidMetH Tryd.prog Rows.ledgerNamesRow.laid W) :
    Calls Tryd.prog 3 args W fun e W' => e = .returned (.bool true) ∧ Below W.heap.size W W' := by
  rw [Tryd.params3] at hA hval hr
  have _ := hL
  obtain ⟨v0, vs0, d0, ds0, p0, q0, hargs, rfl, rfl, h0, r0⟩ := trodAll_cons hA
  obtain ⟨v1, vs1, d1, ds1, p1, q1, rfl, rfl, rfl, h1, r1⟩ := trodAll_cons r0
  obtain ⟨rfl, rfl, rfl⟩ := trodAll_nil r1
  obtain rfl : args = #[v0, v1] := by cases args; simp_all
  obtain ⟨a, xs, cap, rfl, hat, hb⟩ := open_strs (hval 0 22 v0 rfl rfl) h0 (fun x hx => hr x (by simp only [DataW.weightsEach, List.mem_append]; exact .inl hx))
  obtain ⟨s, rfl, rfl, rfl, ws⟩ := Go.ChangeMaps.open_string Tryd.underlying9 (hval 1 9 v1 rfl rfl) h1
  exact walk a cap xs s.data.toList W hat hb
end Go.Proofs.YtmimhimlgbklpaaDoor.ledgerNames
