/- Numbers and texts as bytes; what an image is. -/
import Derived.Test.YtocjfjikkdpfdaaDoorBase
import Derived.Lib.AppendStr
import Derived.Test.YtocjfjikkdpfdaaDoorLedLists
import Derived.Test.YtocjfjikkdpfdaaDoorBaseRow
import Derived.Test.YtocjfjikkdpfdaaDoorBaseApp
import Derived.Deep.Cut
import Derived.Test.YtocjfjikkdpfdaaDoorLedRGood
set_option linter.unusedSimpArgs false
set_option linter.unusedVariables false
namespace Go.Proofs.YtocjfjikkdpfdaaDoor.Bas
open Go Go.Lib Go.RowKit
section
variable {P : Program} {w : World}
theorem run_append_str_at {t u e : TypeId} (E : Elem P t e (.int .u8 0) 1 1) (hu : P.underlying u = some .string) (base : Nat) (ty : TypeId) (v : Value) (n : Nat) (xs : List Value) (hown : w.ownsRow base e 1 v n xs) (s : ByteArray)
    (h63 : n + s.size ≤ 9223372036854775807) (hbytes : n + s.size ≤ 140737488355328) (hbase : base ≤ w.heap.size) :
    ∃ v' w', (Builtin.append_ #[t, u] ty #[v, .string s]).run P w = .ok v' w' ∧ w'.ownsRow base e 1 v' (n + s.size) (xs ++ strCells s) ∧ w.grownBy w' v.ownBlock ∧ (v'.ownBlock = v.ownBlock ∨ v'.ownBlock = some w.heap.size) := by
  obtain ⟨i, hi, hz, hs, hb⟩ := info_parts E.row
  have hxl : xs.length = n := by simpa using hown.1
  obtain ⟨v', w', hr, h2, h3, h4⟩ := run_append_own_string (P := P) w base t u ty e i E.und hu hi hz hs hb v n xs hown s (by unfold maxLen; omega) hbytes hbase
  refine ⟨v', w', hr, h2, h3, ?_⟩
  rcases hown.2 with ⟨rfl, rfl⟩ | ⟨g, cap, cur, rfl, hbg, hg, hnc, hcm, hcs, htake⟩
  · by_cases hm : s.size = 0
    · rw [h4.2 ⟨rfl, hm⟩]
      exact .inl rfl
    · have hr2 := run_append_nil_string (P := P) w t u ty e i (.int .u8 0) E.und hu hi hz s (by omega) (by omega) (by rw [hb]; omega)
      rw [hr2] at hr
      injection hr with h5 _
      rw [← h5]
      exact .inr rfl
  · by_cases hroom : n + s.size ≤ cap
    · have hr2 := run_append_room_string (P := P) w t u ty e i E.und hu hi hs g n cap cur hg s hroom (by have : cur.size = cap := (by simpa using hcs); omega)
      rw [hr2] at hr
      injection hr with h5 _
      rw [← h5]
      exact .inl rfl
    · have holds : ∀ j u, xs[j]? = some u → w.cell? ((⟨g, 0, none⟩ : Addr).add j) = some u := hown.cells (g := g) rfl
      have hr2 := run_append_grow_string (P := P) w t u ty e i (.int .u8 0) E.und hu hi hz ⟨g, 0, none⟩ n cap xs (by rw [hs]; simpa using hxl) holds s (by omega) (by omega) (by rw [hb]; exact growslice_fits (by omega) (by omega))
      rw [hr2] at hr
      injection hr with h5 _
      rw [← h5]
      exact .inr rfl
theorem wpList_append_str_at {ops : Array Oper} {rest : List Oper} {o : Oper} {a : Act} {Q : Exit → Act → World → Prop} (hgd : o.guard = none) (sl x : Operand) {t u e : TypeId} (E : Elem P t e (.int .u8 0) 1 1) (hu : P.underlying u = some .string)
    (ho : o.op = .call { callee := .builtin .append, args := #[sl, x], argTypes := #[t, u] })
    (base : Nat) (v : Value) (n : Nat) (xs : List Value) (hs : a.eval sl = v) (hown : w.ownsRow base e 1 v n xs) (s : ByteArray) (hx : a.eval x = .string s)
    (h63 : n + s.size ≤ 9223372036854775807) (hbytes : n + s.size ≤ 140737488355328) (hbase : base ≤ w.heap.size)
    (h : ∀ v' w', w'.ownsRow base e 1 v' (n + s.size) (xs ++ strCells s) → w.grownBy w' v.ownBlock → (v'.ownBlock = v.ownBlock ∨ v'.ownBlock = some w.heap.size) → wpList P ops Q rest (a.put o.dst v') w') : wpList P ops Q (o :: rest) a w := by
  refine wpList_plain hgd fun K hK => ?_
  obtain ⟨v', w', hrun, h2, h3, h4⟩ := run_append_str_at (P := P) (w := w) E hu base o.type v n xs hown s h63 hbytes hbase
  unfold Oper.wp execOp
  simp only [ho, resolve, invoke, builtin, Sem.run_bind, Sem.run_pure, Result.andThen_ok, List.map_toArray, List.map_cons, List.map_nil, hs, hx, hrun]
  exact hK _ _ (h v' w' h2 h3 h4)
end
end Go.Proofs.YtocjfjikkdpfdaaDoor.Bas
namespace Go.Proofs.YtocjfjikkdpfdaaDoor.ImgW
open Go.RowKit Go.Proofs.YtocjfjikkdpfdaaDoor.Bas Go.Proofs.YtocjfjikkdpfdaaDoor.LedM Go.Proofs.YtocjfjikkdpfdaaDoor.LedW

/-- a number's bits, as they are -/
def bitsN (x : Int) : Nat := (x % 18446744073709551616).toNat
def byteN (x : Int) (k : Nat) : UInt8 := UInt8.ofNat (bitsN x / 256 ^ k)
def encN (x : Int) : List UInt8 := [byteN x 0, byteN x 1, byteN x 2, byteN x 3, byteN x 4, byteN x 5, byteN x 6, byteN x 7]
theorem encN_take (x : Int) {k : Nat} (hk : k < 8) : (encN x).take (k + 1) = (encN x).take k ++ [byteN x k] := by
  match k, hk with
  | 0, _ => rfl
  | 1, _ => rfl
  | 2, _ => rfl
  | 3, _ => rfl
  | 4, _ => rfl
  | 5, _ => rfl
  | 6, _ => rfl
  | 7, _ => rfl
theorem encN_len (x : Int) : (encN x).length = 8 := rfl
theorem byteN_nat (x : Int) (k : Nat) : ((byteN x k).toNat : Int) = ((bitsN x / 256 ^ k % 256 : Nat) : Int) := by
  unfold byteN
  rw [UInt8.toNat_ofNat']
theorem byteN_wrap (x : Int) (k : Nat) : IntKind.u64.wrap x / 2 ^ (8 * k) % 256 = ((byteN x k).toNat : Int) := by
  rw [byteN_nat, IntKind.wrap_u64]
  unfold bitsN
  have h0 : 0 ≤ x % 18446744073709551616 := Int.emod_nonneg _ (by decide)
  have h1 : ((x % 18446744073709551616).toNat : Int) = x % 18446744073709551616 := Int.toNat_of_nonneg h0
  have h2 : (2 : Int) ^ (8 * k) = ((256 ^ k : Nat) : Int) := by
    rw [Int.pow_mul]
    norm_cast
  rw [h2, Int.natCast_emod, Int.natCast_ediv, h1]
  rfl
/-- a row has grown: nothing else has turned -/
structure App (w w' : World) (v v' : Value) : Prop where
  grown : w.grownBy w' v.ownBlock
  step : v'.ownBlock = v.ownBlock ∨ ∃ g, v'.ownBlock = some g ∧ w.heap.size ≤ g
theorem App.refl (w : World) (v : Value) : App w w v v := ⟨⟨rfl, rfl, rfl, Nat.le_refl _, fun _ _ _ => rfl⟩, .inl rfl⟩
theorem App.trans {a b c : World} {u v x : Value} (h : App a b u v) (k : App b c v x) : App a c u x := by
  refine ⟨⟨k.grown.os.trans h.grown.os, k.grown.tape.trans h.grown.tape, k.grown.output.trans h.grown.output, Nat.le_trans h.grown.size k.grown.size, fun i hi hne => ?_⟩, ?_⟩
  · have h1 := h.grown.block i hi hne
    have h2 : some i ≠ v.ownBlock := by
      rcases h.step with e | ⟨g, e, hg⟩
      · rw [e]; exact hne
      · rw [e]
        intro e2
        have : i = g := by simpa using e2
        omega
    exact (k.grown.block i (Nat.lt_of_lt_of_le hi h.grown.size) h2).trans h1
  · rcases k.step with e | ⟨g, e, hg⟩
    · rw [e]; exact h.step
    · exact .inr ⟨g, e, Nat.le_trans h.grown.size hg⟩
theorem App.alloc (w : World) (o : Obj) (v : Value) : App w (w.alloc o) v v := ⟨World.grownBy_alloc w o _, .inl rfl⟩
theorem App.low {w w' : World} {v v' : Value} (h : App w w' v v') {base : Nat} (hb : base ≤ w.heap.size) (hv : ∀ g, v.ownBlock = some g → base ≤ g) : Below base w w' := (Below.refl _ _).grown h.grown hb hv
theorem u8s_append (a b : List UInt8) : u8s (a ++ b) = u8s a ++ u8s b := List.map_append
theorem elem8 : Elem Tryd.prog 36 5 (.int .u8 0) 1 1 := ⟨Tryd.underlying36, by kernel_rfl, rfl, by decide⟩
set_option maxHeartbeats 1000000 in
theorem number_calls (base : Nat) (v : Value) (xs : List UInt8) (x : Int) (w : World) (hown : w.ownsRow base 5 1 v xs.length (u8s xs)) (hb : base ≤ w.heap.size) (hl : xs.length ≤ 1000000000) :
    Calls Tryd.prog 45 #[v, .int .i64 x] w fun e w' => ∃ v', e = .returned v' ∧ w'.ownsRow base 5 1 v' (xs.length + 8) (u8s (xs ++ encN x)) ∧ App w w' v v' := by
  have HO := Lib.hid hown
  clear hown
  go_enter Tryd.func45, Tryd.ntmps45
  go_wp2_with fail
  go_loopw [0, 6] (fun o i wr => ∃ k : Nat, k ≤ 8 ∧ i = .int .i64 (k : Int) ∧ wr.ownsRow base 5 1 o (xs.length + k) (u8s (xs ++ (encN x).take k)) ∧ App w wr v o) (fun _ i _ => 8 - (intOf i).toNat)
  case atStart => exact ⟨0, by omega, rfl, by simpa using HO.out, App.refl _ _⟩
  case round =>
    clear HO
    obtain ⟨k, hk, rfl, own, app⟩ := hrel
    have hz := app.grown.size
    obtain ⟨a, c, rfl, _, _, _, _, _⟩ := at_of_owns own
    have HOwn := Lib.hid own
    clear own
    by_cases hlt : k < 8
    · have hnew := Lib.hid (at_alloc wr #[.int .u8 (IntKind.u64.wrap x / 2 ^ (8 * k) % 256)] 5 (0, 0))
      have HO4 := Lib.hid (HOwn.out.alloc (.cells #[.int .u8 (IntKind.u64.wrap x / 2 ^ (8 * k) % 256)] 5))
      have HS : Hid (u8s (xs ++ (encN x).take (k + 1)) = u8s (xs ++ (encN x).take k) ++ [.int .u8 (IntKind.u64.wrap x / 2 ^ (8 * k) % 256)]) := by
        unfold Hid
        rw [encN_take x hlt, ← List.append_assoc, u8s_append _ [byteN x k], byteN_wrap]
        rfl
      clear HOwn
      go_wp2_with (first | (at_builtin; refine wpList_append_at _ rfl (.tmp 9) (.tmp 16) elem8 rfl base (.slice a (xs.length + k) c) (xs.length + k) (u8s (xs ++ (encN x).take k)) rfl HO4.out (some ⟨wr.heap.size, 0, none⟩) 1 1 [.int .u8 (IntKind.u64.wrap x / 2 ^ (8 * k) % 256)] rfl rfl hnew.out (by simp [Value.oneCell']) (by unfold maxLen; omega) (by omega) (by rw [World.size_alloc]; omega) ?_; intro v2 w3 own2 bel2 g2 ob2))
      go_roundw
      case rel =>
        refine ⟨k + 1, by omega, by go_num, by rw [HS.out]; exact own2, app.trans ((App.alloc wr _ _).trans ⟨g2, ?_⟩)⟩
        rcases ob2 with e | e
        · exact .inl e
        · exact .inr ⟨_, e, Nat.le_refl _⟩
      case measure => simp [intOf]; omega
    · obtain rfl : k = 8 := by omega
      go_wp2_with fail
      go_ret
      exact ⟨_, rfl, HOwn.out, app⟩
/-- numbers as bytes -/
def encs (ns : List Int) : List UInt8 := ns.flatMap encN
theorem encs_len (ns : List Int) : (encs ns).length = 8 * ns.length := by
  unfold encs
  induction ns with
  | nil => rfl
  | cons n r ih => rw [List.flatMap_cons, List.length_append, ih, encN_len, List.length_cons]; omega
theorem encs_next {ns : List Int} {k : Nat} (hk : k < ns.length) : encs (ns.take (k + 1)) = encs (ns.take k) ++ encN ns[k] := by
  unfold encs
  rw [List.take_succ_eq_append_getElem hk, List.flatMap_append]
  simp
/-- numbers that lie apart from the row stay -/
def Sep (w : World) (a : Option Addr) (cs : List Value) (v : Value) : Prop := cs ≠ [] → ∀ x, a = some x → v.ownBlock ≠ some x.block ∧ x.block < w.heap.size
theorem at_app {w w' : World} {v v' : Value} {a : Option Addr} {cs : List Value} (h : At w a cs) (p : App w w' v v') (hs : Sep w a cs v) : At w' a cs := by
  intro j u hj
  obtain ⟨b, off, rfl, hc⟩ := h j u hj
  have hne : cs ≠ [] := by rintro rfl; simp at hj
  exact ⟨b, off, rfl, p.grown.cell hc (fun e => (hs hne _ rfl).1 e.symm)⟩
theorem App.apart {w w' : World} {v v' : Value} {a : Option Addr} {cs : List Value} (p : App w w' v v') (hs : Sep w a cs v) : Sep w' a cs v' := fun hne x hx => by
  obtain ⟨h1, h2⟩ := hs hne x hx
  refine ⟨?_, Nat.lt_of_lt_of_le h2 p.grown.size⟩
  rcases p.step with e | ⟨g, e, hg⟩
  · rw [e]; exact h1
  · rw [e]
    intro e2
    have : g = x.block := by simpa using e2
    omega
/-- what was there ahead of the row stands apart from it -/
theorem sep_low {w W : World} {a : Option Addr} {cs : List Value} (h : At w a cs) {e : TypeId} {z n : Nat} {o : Value} {bs : List Value} (own : W.ownsRow (w.heap.size + 1) e z o n bs) (hw : w.heap.size ≤ W.heap.size) : Sep W a cs o := fun hne x hx => by
  have h1 := h.lt x.block x.off x.spot (by rw [hx]) hne
  refine ⟨fun e => ?_, by omega⟩
  have := (own.lt _ e).1
  omega
set_option maxHeartbeats 1000000 in
theorem numbers_calls (base : Nat) (v : Value) (xs : List UInt8) (a : Option Addr) (cap : Nat) (ns : List Int) (w : World) (hown : w.ownsRow base 5 1 v xs.length (u8s xs)) (hb : base ≤ w.heap.size) (hl : xs.length + 8 * ns.length ≤ 1000000000) (hat : At w a (i64s ns)) (hs : Sep w a (i64s ns) v) :
    Calls Tryd.prog 19 #[v, .slice a ns.length cap] w fun e w' => ∃ v', e = .returned v' ∧ w'.ownsRow base 5 1 v' (xs ++ encs ns).length (u8s (xs ++ encs ns)) ∧ App w w' v v' := by
  have HO := Lib.hid hown
  have HA := Lib.hid hat
  have HSep := Lib.hid hs
  clear hown hat hs
  go_enter Tryd.func19, Tryd.ntmps19
  go_wp2_with fail
  go_loopw [0, 9] (fun o i wr => ∃ k : Nat, k ≤ ns.length ∧ i = .int .i64 (k : Int) ∧ wr.ownsRow base 5 1 o (xs ++ encs (ns.take k)).length (u8s (xs ++ encs (ns.take k))) ∧ App w wr v o) (fun _ i _ => ns.length - (intOf i).toNat)
  case atStart => exact ⟨0, by omega, rfl, by simpa [encs] using HO.out, App.refl _ _⟩
  case round =>
    clear HO
    obtain ⟨k, hk, rfl, own, app⟩ := hrel
    have hz := app.grown.size
    by_cases hlt : k < ns.length
    · obtain ⟨b, off, ha, c0⟩ := (at_app HA.out app HSep.out) k _ (i64s_get ns k hlt)
      have hlen : (xs ++ encs (ns.take k)).length ≤ 1000000000 := by rw [List.length_append, encs_len, List.length_take]; omega
      have C := Lib.hid (number_calls base _ (xs ++ encs (ns.take k)) ns[k] wr own (by omega) hlen)
      have HS : Hid (xs ++ encs (ns.take (k + 1)) = (xs ++ encs (ns.take k)) ++ encN ns[k]) := by unfold Hid; rw [encs_next hlt, List.append_assoc]
      have HL : Hid (((xs ++ encs (ns.take k)) ++ encN ns[k]).length = (xs ++ encs (ns.take k)).length + 8) := by unfold Hid; rw [List.length_append, encN_len]
      clear own hlen
      generalize ns[k] = z at *
      rw [ha]
      clear ha
      go_wp2_with (go_at_call 45; refine C.out.mono ?_; rintro e w3 ⟨v3, rfl, own3, app3⟩)
      go_roundw
      case rel => exact ⟨k + 1, by omega, by go_num, by rw [HS.out, HL.out]; exact own3, app.trans app3⟩
      case measure => simp [intOf]; omega
    · obtain rfl : k = ns.length := by omega
      rw [List.take_length] at own
      have HOw := Lib.hid own
      clear own
      go_wp2_with fail
      go_ret
      exact ⟨_, rfl, HOw.out, app⟩
end Go.Proofs.YtocjfjikkdpfdaaDoor.ImgW
namespace Go.Proofs.YtocjfjikkdpfdaaDoor.ImgW
open Go.RowKit Go.Proofs.YtocjfjikkdpfdaaDoor.Bas Go.Proofs.YtocjfjikkdpfdaaDoor.LedM Go.Proofs.YtocjfjikkdpfdaaDoor.LedW

theorem wrap_bits (x : Int) : IntKind.u64.wrap x = ((bitsN x : Nat) : Int) := by
  rw [IntKind.wrap_u64]
  unfold bitsN
  exact (Int.toNat_of_nonneg (Int.emod_nonneg _ (by decide))).symm
theorem byte_mod (x : Int) (k : Nat) : ((bitsN x / 256 ^ k : Nat) : Int) % 256 = ((byteN x k).toNat : Int) := by
  rw [byteN_nat, Int.natCast_emod]
  rfl
theorem bits_next (x : Int) (k : Nat) : ((bitsN x / 256 ^ k : Nat) : Int) / 256 = ((bitsN x / 256 ^ (k + 1) : Nat) : Int) := by
  rw [Nat.pow_succ, ← Nat.div_div_eq_div_mul, Int.natCast_ediv (bitsN x / 256 ^ k)]
  rfl
theorem bits_lt (x : Int) : bitsN x < 18446744073709551616 := by
  unfold bitsN
  have h0 := Int.emod_lt_of_pos x (show (0 : Int) < 18446744073709551616 by decide)
  have h1 := Int.emod_nonneg x (show (18446744073709551616 : Int) ≠ 0 by decide)
  omega
set_option maxHeartbeats 2000000 in
theorem put_calls (base : Nat) (v : Value) (xs : List UInt8) (a : Option Addr) (cap : Nat) (ns : List Int) (w : World) (hown : w.ownsRow base 5 1 v xs.length (u8s xs)) (hb : base ≤ w.heap.size) (hl : xs.length + 8 * ns.length ≤ 1000000000) (hat : At w a (i64s ns)) (hs : Sep w a (i64s ns) v) :
    Calls Tryd.prog 23 #[v, .slice a ns.length cap] w fun e w' => ∃ v', e = .returned v' ∧ w'.ownsRow base 5 1 v' (xs ++ encs ns).length (u8s (xs ++ encs ns)) ∧ App w w' v v' := by
  have HO := Lib.hid hown
  have HA := Lib.hid hat
  have HSep := Lib.hid hs
  clear hown hat hs
  go_enter Tryd.func23, Tryd.ntmps23
  go_wp2_with fail
  go_loopw [0, 11] (fun o i wr => ∃ k : Nat, k ≤ ns.length ∧ i = .int .i64 (k : Int) ∧ wr.ownsRow base 5 1 o (xs ++ encs (ns.take k)).length (u8s (xs ++ encs (ns.take k))) ∧ App w wr v o) (fun _ i _ => ns.length - (intOf i).toNat)
  case atStart => exact ⟨0, by omega, rfl, by simpa [encs] using HO.out, App.refl _ _⟩
  case round =>
    clear HO
    obtain ⟨j, hj, rfl, own, app⟩ := hrel
    have hz := app.grown.size
    by_cases hlj : j < ns.length
    · obtain ⟨b, off, ha, c0⟩ := (at_app HA.out app HSep.out) j _ (i64s_get ns j hlj)
      have hlen : (xs ++ encs (ns.take j)).length ≤ 1000000000 := by rw [List.length_append, encs_len, List.length_take]; omega
      have HS : Hid (xs ++ encs (ns.take (j + 1)) = (xs ++ encs (ns.take j)) ++ encN ns[j]) := by unfold Hid; rw [encs_next hlj, List.append_assoc]
      have HL : Hid (((xs ++ encs (ns.take j)) ++ encN ns[j]).length = (xs ++ encs (ns.take j)).length + 8) := by unfold Hid; rw [List.length_append, encN_len]
      have HOwn0 := Lib.hid own
      have HApp := Lib.hid app
      clear own app
      generalize xs ++ encs (ns.take j) = ys at *
      generalize ns[j] = x at *
      have hwb := wrap_bits x
      rw [ha]
      clear ha
      go_wp2_with fail
      clear c0 hwb
      go_loopw [0, 7, 8] (fun o u i wr => ∃ k : Nat, k ≤ 8 ∧ i = .int .i64 (k : Int) ∧ u = .int .u64 ((bitsN x / 256 ^ k : Nat) : Int) ∧ wr.ownsRow base 5 1 o (ys.length + k) (u8s (ys ++ (encN x).take k)) ∧ App w wr v o) (fun _ _ i _ => 8 - (intOf i).toNat)
      case atStart => exact ⟨0, by omega, rfl, by simp, by simpa using HOwn0.out, HApp.out⟩
      case round =>
        clear HOwn0 HApp
        obtain ⟨k, hk, rfl, rfl, own, app⟩ := hrel
        have hz := app.grown.size
        obtain ⟨ao, c, rfl, _, _, _, _, _⟩ := at_of_owns own
        have HOwn := Lib.hid own
        clear own
        by_cases hlt : k < 8
        · have hbm := byte_mod x k
          have hbn := bits_next x k
          have hnew := Lib.hid (at_alloc wr #[.int .u8 ((byteN x k).toNat : Int)] 5 (0, 0))
          have HO4 := Lib.hid (HOwn.out.alloc (.cells #[.int .u8 ((byteN x k).toNat : Int)] 5))
          have HB : Hid (u8s (ys ++ (encN x).take (k + 1)) = u8s (ys ++ (encN x).take k) ++ [.int .u8 ((byteN x k).toNat : Int)]) := by
            unfold Hid
            rw [encN_take x hlt, ← List.append_assoc, u8s_append _ [byteN x k]]
            rfl
          have hlt2 : bitsN x / 256 ^ k < 18446744073709551616 := Nat.lt_of_le_of_lt (Nat.div_le_self _ _) (bits_lt x)
          clear HOwn
          generalize bitsN x / 256 ^ k = n at *
          generalize hn2 : bitsN x / 256 ^ (k + 1) = n2 at *
          have HN2 := Lib.hid hn2
          clear hn2
          go_wp2_with (first | (at_builtin; refine wpList_append_at _ rfl (.tmp 21) (.tmp 24) elem8 rfl base (.slice ao (ys.length + k) c) (ys.length + k) (u8s (ys ++ (encN x).take k)) rfl HO4.out (some ⟨wr.heap.size, 0, none⟩) 1 1 [.int .u8 ((byteN x k).toNat : Int)] rfl rfl hnew.out (by simp [Value.oneCell']) (by unfold maxLen; omega) (by omega) (by rw [World.size_alloc]; omega) ?_; intro v2 w3 own2 bel2 g2 ob2))
          go_roundw
          case rel =>
            refine ⟨k + 1, by omega, by go_num, by rw [HN2.out], by rw [HB.out]; exact own2, app.trans ((App.alloc wr _ _).trans ⟨g2, ?_⟩)⟩
            rcases ob2 with e | e
            · exact .inl e
            · exact .inr ⟨_, e, Nat.le_refl _⟩
          case measure => simp [intOf]; omega
        · obtain rfl : k = 8 := by omega
          go_wp2_with fail
          go_roundw
          case rel => exact ⟨j + 1, by omega, by go_num, by rw [HS.out, HL.out]; exact HOwn.out, app⟩
          case measure => simp [intOf]; omega
    · obtain rfl : j = ns.length := by omega
      rw [List.take_length] at own
      have HOw := Lib.hid own
      clear own
      go_wp2_with fail
      go_ret
      exact ⟨_, rfl, HOw.out, app⟩
def bitF (b : Bool) : Int := if b then 1 else 0
theorem bit_calls (b : Bool) (w : World) : Calls Tryd.prog 21 #[.bool b] w fun e w' => e = .returned (.int .i64 (bitF b)) ∧ w = w' := by
  cases b
  · go_enter Tryd.func21, Tryd.ntmps21
    go_wp2_with fail
    go_ret
    exact ⟨rfl, rfl⟩
  · go_enter Tryd.func21, Tryd.ntmps21
    go_wp2_with fail
    go_ret
    exact ⟨rfl, rfl⟩
theorem rbit_calls (b : Bool) (w : World) : Calls Tryd.prog 24 #[.bool b] w fun e w' => e = .returned (.int .i64 (bitF b)) ∧ w = w' := by
  cases b
  · go_enter Tryd.func24, Tryd.ntmps24
    go_wp2_with fail
    go_ret
    exact ⟨rfl, rfl⟩
  · go_enter Tryd.func24, Tryd.ntmps24
    go_wp2_with fail
    go_ret
    exact ⟨rfl, rfl⟩
end Go.Proofs.YtocjfjikkdpfdaaDoor.ImgW
namespace Go.Proofs.YtocjfjikkdpfdaaDoor.ImgW
open Go Go.Lib Go.RowKit Go.Proofs.YtocjfjikkdpfdaaDoor.Bas Go.Proofs.YtocjfjikkdpfdaaDoor.LedM Go.Proofs.YtocjfjikkdpfdaaDoor.LedW

theorem str_cells (s : List UInt8) : strCells ⟨s.toArray⟩ = u8s s := by
  simp [strCells, u8s]
theorem str_size (s : List UInt8) : (⟨s.toArray⟩ : ByteArray).size = s.length := by
  show s.toArray.size = _
  simp
def encT (s : List UInt8) : List UInt8 := encN s.length ++ s
theorem text_calls (base : Nat) (v : Value) (xs : List UInt8) (s : List UInt8) (w : World) (hown : w.ownsRow base 5 1 v xs.length (u8s xs)) (hb : base ≤ w.heap.size) (hl : xs.length + 8 + s.length ≤ 1000000000) :
    Calls Tryd.prog 20 #[v, .string ⟨s.toArray⟩] w fun e w' => ∃ v', e = .returned v' ∧ w'.ownsRow base 5 1 v' (xs ++ encT s).length (u8s (xs ++ encT s)) ∧ App w w' v v' := by
  have hsz := str_size s
  have C := Lib.hid (number_calls base v xs (s.length : Int) w hown hb (by omega))
  have HLen : Hid ((xs ++ encT s).length = xs.length + 8 + (⟨s.toArray⟩ : ByteArray).size) := by
    unfold Hid encT
    rw [List.length_append, List.length_append, encN_len, hsz]
    omega
  have HCells : Hid (u8s (xs ++ encT s) = u8s (xs ++ encN s.length) ++ strCells ⟨s.toArray⟩) := by
    unfold Hid encT
    rw [← List.append_assoc, u8s_append, str_cells]
  have hsb : xs.length + 8 + (⟨s.toArray⟩ : ByteArray).size ≤ 1000000000 := by rw [hsz]; exact hl
  have HSB := Lib.hid hsb
  clear hown hsb
  go_enter Tryd.func20, Tryd.ntmps20
  go_wp2_with (first | (go_at_call 45; refine C.out.mono ?_; rintro e w3 ⟨v3, rfl, own3, app3⟩; have hz3 := app3.grown.size) | (at_builtin; refine wpList_append_str_at rfl (.tmp 8) (.tmp 9) elem8 Tryd.underlying9 rfl base v3 (xs.length + 8) (u8s (xs ++ encN s.length)) rfl own3 ⟨s.toArray⟩ rfl (by have := HSB.out; omega) (by have := HSB.out; omega) (by omega) ?_; intro v4 w4 own4 g4 ob4))
  go_ret
  refine ⟨_, rfl, by rw [HLen.out, HCells.out]; exact own4, app3.trans ⟨g4, ?_⟩⟩
  rcases ob4 with e | e
  · exact .inl e
  · exact .inr ⟨_, e, Nat.le_refl _⟩
end Go.Proofs.YtocjfjikkdpfdaaDoor.ImgW
namespace Go.Proofs.YtocjfjikkdpfdaaDoor.ImgW
open Go.RowKit Go.Proofs.YtocjfjikkdpfdaaDoor.Bas Go.Proofs.YtocjfjikkdpfdaaDoor.LedM Go.Proofs.YtocjfjikkdpfdaaDoor.LedW

def encC (c : Int × Int) : List UInt8 := encs [c.1, c.2]
def encU (u : Und) : List UInt8 := encT u.name ++ encs [u.cur, u.price, u.vol]
def encI (x : Ins × Int) : List UInt8 := encs [x.1.kind, x.1.under, x.1.mult, x.1.strike, x.1.expiry, bitF x.1.call, x.1.mark, x.2]
def encA (a : Acc) : List UInt8 := encs [a.parent, bitF a.flag, a.last] ++ encs a.cash
def encP (p : Tri) : List UInt8 := encs [p.1, p.2.1, p.2.2]
def encO (o : Ord) : List UInt8 := encs [o.acct, o.id, o.instr, o.qty, o.price]
def headL (l : Led) : List Int := [l.day, l.curs.length, l.unders.length, l.instrs.length, l.accts.length, l.poss.length, l.orders.length, l.locs.length]
/-- a ledger's image -/
def encL (l : Led) : List UInt8 := encs (headL l) ++ l.curs.flatMap encC ++ l.unders.flatMap encU ++ (l.instrs.zip l.avail).flatMap encI ++ l.accts.flatMap encA ++ l.poss.flatMap encP ++ l.orders.flatMap encO ++ l.locs.flatMap encP
def imageF (l : Led) : List UInt8 × Int := if goodF l = true then (encL l, 0) else ([], 43)
theorem flat_next {α : Type} (f : α → List UInt8) {xs : List α} {k : Nat} (hk : k < xs.length) : (xs.take (k + 1)).flatMap f = (xs.take k).flatMap f ++ f xs[k] := by
  rw [List.take_succ_eq_append_getElem hk, List.flatMap_append]
  simp
theorem flat_size {α : Type} (f : α → List UInt8) (m : Nat) : ∀ (xs : List α), (∀ x ∈ xs, (f x).length ≤ m) → (xs.flatMap f).length ≤ m * xs.length
  | [], _ => by simp
  | x :: r, h => by
    have h1 := h x List.mem_cons_self
    have h2 := flat_size f m r (fun y hy => h y (List.mem_cons_of_mem _ hy))
    rw [List.flatMap_cons, List.length_append, List.length_cons, Nat.mul_succ]
    omega
theorem good_parts {l : Led} (h : goodF l = true) : l.curs.length ≤ 4 ∧ undB l.curs.length l.unders = true ∧ allI (accOk l.curs.length) 0 l.accts = true ∧ l.avail.length = l.instrs.length := by
  unfold goodF at h
  simp only [Bool.and_eq_true] at h
  obtain ⟨_, h2, h3, _, _, h6, _⟩ := h
  unfold thingsF at h2
  simp only [Bool.and_eq_true, decide_eq_true_eq] at h2
  unfold accountsF at h3
  rw [Bool.and_eq_true] at h3
  unfold locsF at h6
  simp only [Bool.and_eq_true, decide_eq_true_eq] at h6
  exact ⟨h2.1.2.1, h2.2.2.1, h3.2, by omega⟩
theorem good_cash {l : Led} (h : goodF l = true) : ∀ a ∈ l.accts, a.cash.length ≤ 4 := fun a ha => by
  obtain ⟨h1, _, h3, _⟩ := good_parts h
  obtain ⟨k, hk, rfl⟩ := List.getElem_of_mem ha
  have := allI_at h3 hk
  unfold accOk at this
  rw [Bool.and_eq_true, decide_eq_true_eq] at this
  have := this.1.1
  omega
theorem under_name {n : Nat} {u : Und} (h : undOk n u = true) : u.name.length ≤ 8 := by
  unfold undOk at h
  have h1 := ((RefW.underF_iff _ _ _ _ _).1 h).1
  unfold RefW.nameF at h1
  rw [Bool.and_eq_true, decide_eq_true_eq] at h1
  have h2 := h1.1.2
  rwa [str_size] at h2
theorem good_name {l : Led} (h : goodF l = true) : ∀ u ∈ l.unders, u.name.length ≤ 8 := fun u hu => by
  have h2 := (good_parts h).2.1
  unfold undB at h2
  rw [Bool.and_eq_true, List.all_eq_true] at h2
  have h3 := h2.1 u hu
  unfold undOk at h3
  exact under_name h3
section
variable {w A B : World} {s : Lists} {l : Led} {vs : List (Value × Acc)}
theorem ledH_app {o o' : Value} {n : Nat} {bs : List Value} (h : LedH w A w.heap.size s l vs) (hat : LedAt w s l vs) (own : A.ownsRow (w.heap.size + 1) 5 1 o n bs) (p : App A B o o') : LedH w B w.heap.size s l vs := by
  have low : Below w.heap.size w B := h.low.trans (p.low h.low.size (fun g hg => by have := (own.lt g hg).1; omega))
  exact ⟨box_grown h.box own (by decide) p.grown, hat.keep low, low⟩
theorem recH_app {g : Nat} {t : TypeId} {cs : Array Value} {o o' : Value} {n : Nat} {bs : List Value} (h : RecH w A s l vs g t cs) (hat : LedAt w s l vs) (ht : 5 ≠ t) (own : A.ownsRow (w.heap.size + 1) 5 1 o n bs) (p : App A B o o') : RecH w B s l vs g t cs :=
  ⟨ledH_app h.led hat own p, box_grown h.rec_ own ht p.grown⟩
end
/-- an array just laid stands apart from the row -/
theorem new_apart {W : World} {b : Nat} {o : Value} {n : Nat} {bs : List Value} (own : W.ownsRow b 5 1 o n bs) (C : Array Value) (cs : List Value) : Sep (W.alloc (.cells C 3)) (some ⟨W.heap.size, 0, none⟩) cs o := fun _ x hx => by
  cases hx
  refine ⟨fun e => ?_, by simp⟩
  have := (own.lt _ e).2
  simp at this
theorem avail_cell {W : World} {s : Lists} {l : Led} {vs : List (Value × Acc)} (h : LedAt W s l vs) {b off : Nat} (ha : s.a7 = some ⟨b, off, none⟩) {k : Nat} (hk : k < l.avail.length) : W.cell? ⟨b, off + k, none⟩ = some (.int .i64 l.avail[k]) := by
  obtain ⟨b', off', h1, h2⟩ := h.avail k _ (i64s_get l.avail k hk)
  rw [ha] at h1
  cases h1
  exact h2
/-- numbers in an array just laid -/
theorem num_step {b : Nat} {A : World} {o : Value} {bs : List UInt8} (own : A.ownsRow b 5 1 o bs.length (u8s bs)) (hb : b ≤ A.heap.size) (ns : List Int) (hl : bs.length + 8 * ns.length ≤ 1000000000) (C : Array Value) (hC : C.toList = i64s ns) (m : Nat) (hm : m = ns.length) :
    Calls Tryd.prog 19 #[o, .slice (some ⟨A.heap.size, 0, none⟩) m m] (A.alloc (.cells C 3)) fun e w' => ∃ o', e = .returned o' ∧ w'.ownsRow b 5 1 o' (bs ++ encs ns).length (u8s (bs ++ encs ns)) ∧ App A w' o o' := by
  subst hm
  have hat := at_alloc A C 3 (0, 0)
  rw [hC] at hat
  refine (numbers_calls b o bs (some ⟨A.heap.size, 0, none⟩) ns.length ns _ (own.alloc _) (by rw [World.size_alloc]; omega) hl hat (new_apart own C _)).mono ?_
  rintro e w' ⟨o', rfl, h1, h2⟩
  exact ⟨o', rfl, h1, (App.alloc A _ o).trans h2⟩
/-- numbers in an array just laid -/
theorem put_step {b : Nat} {A : World} {o : Value} {bs : List UInt8} (own : A.ownsRow b 5 1 o bs.length (u8s bs)) (hb : b ≤ A.heap.size) (ns : List Int) (hl : bs.length + 8 * ns.length ≤ 1000000000) (C : Array Value) (hC : C.toList = i64s ns) (m : Nat) (hm : m = ns.length) :
    Calls Tryd.prog 23 #[o, .slice (some ⟨A.heap.size, 0, none⟩) m m] (A.alloc (.cells C 3)) fun e w' => ∃ o', e = .returned o' ∧ w'.ownsRow b 5 1 o' (bs ++ encs ns).length (u8s (bs ++ encs ns)) ∧ App A w' o o' := by
  subst hm
  have hat := at_alloc A C 3 (0, 0)
  rw [hC] at hat
  refine (put_calls b o bs (some ⟨A.heap.size, 0, none⟩) ns.length ns _ (own.alloc _) (by rw [World.size_alloc]; omega) hl hat (new_apart own C _)).mono ?_
  rintro e w' ⟨o', rfl, h1, h2⟩
  exact ⟨o', rfl, h1, (App.alloc A _ o).trans h2⟩
end Go.Proofs.YtocjfjikkdpfdaaDoor.ImgW
