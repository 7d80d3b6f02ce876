/- Numbers, texts, ledgers and events as bytes; what the laws of layer 21 are handed; the bytes tell what they are of. -/
import Derived.Test.YtocjfjikkdpfdaaGreatDoorBase
import Derived.Lib.AppendStr
import Derived.Test.YtocjfjikkdpfdaaGreatDoorLedLists
import Derived.Test.YtocjfjikkdpfdaaGreatDoorBaseRow
import Derived.Test.YtocjfjikkdpfdaaGreatDoorBaseApp
import Derived.Deep.Cut
import Derived.Test.YtocjfjikkdpfdaaGreatDoorLedRGood
import Derived.Test.YtocjfjikkdpfdaaGreatDoorLedB
import Derived.Test.YtocjfjikkdpfdaaGreatDoorLedA
import Derived.Deep.QuietTactic
set_option linter.unusedSimpArgs false
set_option linter.unusedVariables false
namespace Go.Proofs.YtocjfjikkdpfdaaGreatDoor.Bas
open Go Go.Lib Go.RowKit
section
variable {P : Program} {w : World}
theorem run_append_str_at {t u e : TypeId} (E : Elem P t e (.int .u8 0) 1 1) (hu : P.underlying u = some .string) (base : Nat) (ty : TypeId) (v : Value) (n : Nat) (xs : List Value) (hown : w.ownsRow base e 1 v n xs) (s : ByteArray)
    (h63 : n + s.size ≤ 9223372036854775807) (hbytes : n + s.size ≤ 140737488355328) (hbase : base ≤ w.heap.size) :
    ∃ v' w', (Builtin.append_ #[t, u] ty #[v, .string s]).run P w = .ok v' w' ∧ w'.ownsRow base e 1 v' (n + s.size) (xs ++ strCells s) ∧ w.grownBy w' v.ownBlock ∧ (v'.ownBlock = v.ownBlock ∨ v'.ownBlock = some w.heap.size) := by
  obtain ⟨i, hi, hz, hs, hb⟩ := info_parts E.row
  have hxl : xs.length = n := by simpa using hown.1
  obtain ⟨v', w', hr, h2, h3, h4⟩ := run_append_own_string (P := P) w base t u ty e i E.und hu hi hz hs hb v n xs hown s (by unfold maxLen; omega) hbytes hbase
  refine ⟨v', w', hr, h2, h3, ?_⟩
  rcases hown.2 with ⟨rfl, rfl⟩ | ⟨g, cap, cur, rfl, hbg, hg, hnc, hcm, hcs, htake⟩
  · by_cases hm : s.size = 0
    · rw [h4.2 ⟨rfl, hm⟩]
      exact .inl rfl
    · have hr2 := run_append_nil_string (P := P) w t u ty e i (.int .u8 0) E.und hu hi hz s (by omega) (by omega) (by rw [hb]; omega)
      rw [hr2] at hr
      injection hr with h5 _
      rw [← h5]
      exact .inr rfl
  · by_cases hroom : n + s.size ≤ cap
    · have hr2 := run_append_room_string (P := P) w t u ty e i E.und hu hi hs g n cap cur hg s hroom (by have : cur.size = cap := (by simpa using hcs); omega)
      rw [hr2] at hr
      injection hr with h5 _
      rw [← h5]
      exact .inl rfl
    · have holds : ∀ j u, xs[j]? = some u → w.cell? ((⟨g, 0, none⟩ : Addr).add j) = some u := hown.cells (g := g) rfl
      have hr2 := run_append_grow_string (P := P) w t u ty e i (.int .u8 0) E.und hu hi hz ⟨g, 0, none⟩ n cap xs (by rw [hs]; simpa using hxl) holds s (by omega) (by omega) (by rw [hb]; exact growslice_fits (by omega) (by omega))
      rw [hr2] at hr
      injection hr with h5 _
      rw [← h5]
      exact .inr rfl
theorem wpList_append_str_at {ops : Array Oper} {rest : List Oper} {o : Oper} {a : Act} {Q : Exit → Act → World → Prop} (hgd : o.guard = none) (sl x : Operand) {t u e : TypeId} (E : Elem P t e (.int .u8 0) 1 1) (hu : P.underlying u = some .string)
    (ho : o.op = .call { callee := .builtin .append, args := #[sl, x], argTypes := #[t, u] })
    (base : Nat) (v : Value) (n : Nat) (xs : List Value) (hs : a.eval sl = v) (hown : w.ownsRow base e 1 v n xs) (s : ByteArray) (hx : a.eval x = .string s)
    (h63 : n + s.size ≤ 9223372036854775807) (hbytes : n + s.size ≤ 140737488355328) (hbase : base ≤ w.heap.size)
    (h : ∀ v' w', w'.ownsRow base e 1 v' (n + s.size) (xs ++ strCells s) → w.grownBy w' v.ownBlock → (v'.ownBlock = v.ownBlock ∨ v'.ownBlock = some w.heap.size) → wpList P ops Q rest (a.put o.dst v') w') : wpList P ops Q (o :: rest) a w := by
  refine wpList_plain hgd fun K hK => ?_
  obtain ⟨v', w', hrun, h2, h3, h4⟩ := run_append_str_at (P := P) (w := w) E hu base o.type v n xs hown s h63 hbytes hbase
  unfold Oper.wp execOp
  simp only [ho, resolve, invoke, builtin, Sem.run_bind, Sem.run_pure, Result.andThen_ok, List.map_toArray, List.map_cons, List.map_nil, hs, hx, hrun]
  exact hK _ _ (h v' w' h2 h3 h4)
end
end Go.Proofs.YtocjfjikkdpfdaaGreatDoor.Bas
namespace Go.Proofs.YtocjfjikkdpfdaaGreatDoor.ImgW
open Go.RowKit Go.Proofs.YtocjfjikkdpfdaaGreatDoor.Bas Go.Proofs.YtocjfjikkdpfdaaGreatDoor.LedM Go.Proofs.YtocjfjikkdpfdaaGreatDoor.LedW

/-- a number's bits, as they are -/
def bitsN (x : Int) : Nat := (x % 18446744073709551616).toNat
def byteN (x : Int) (k : Nat) : UInt8 := UInt8.ofNat (bitsN x / 256 ^ k)
def encN (x : Int) : List UInt8 := [byteN x 0, byteN x 1, byteN x 2, byteN x 3, byteN x 4, byteN x 5, byteN x 6, byteN x 7]
theorem encN_take (x : Int) {k : Nat} (hk : k < 8) : (encN x).take (k + 1) = (encN x).take k ++ [byteN x k] := by
  match k, hk with
  | 0, _ => rfl
  | 1, _ => rfl
  | 2, _ => rfl
  | 3, _ => rfl
  | 4, _ => rfl
  | 5, _ => rfl
  | 6, _ => rfl
  | 7, _ => rfl
theorem encN_len (x : Int) : (encN x).length = 8 := rfl
theorem byteN_nat (x : Int) (k : Nat) : ((byteN x k).toNat : Int) = ((bitsN x / 256 ^ k % 256 : Nat) : Int) := by
  unfold byteN
  rw [UInt8.toNat_ofNat']
theorem byteN_wrap (x : Int) (k : Nat) : IntKind.u64.wrap x / 2 ^ (8 * k) % 256 = ((byteN x k).toNat : Int) := by
  rw [byteN_nat, IntKind.wrap_u64]
  unfold bitsN
  have h0 : 0 ≤ x % 18446744073709551616 := Int.emod_nonneg _ (by decide)
  have h1 : ((x % 18446744073709551616).toNat : Int) = x % 18446744073709551616 := Int.toNat_of_nonneg h0
  have h2 : (2 : Int) ^ (8 * k) = ((256 ^ k : Nat) : Int) := by
    rw [Int.pow_mul]
    norm_cast
  rw [h2, Int.natCast_emod, Int.natCast_ediv, h1]
  rfl
/-- a row has grown: nothing else has turned -/
structure App (w w' : World) (v v' : Value) : Prop where
  grown : w.grownBy w' v.ownBlock
  step : v'.ownBlock = v.ownBlock ∨ ∃ g, v'.ownBlock = some g ∧ w.heap.size ≤ g
theorem App.refl (w : World) (v : Value) : App w w v v := ⟨⟨rfl, rfl, rfl, Nat.le_refl _, fun _ _ _ => rfl⟩, .inl rfl⟩
theorem App.trans {a b c : World} {u v x : Value} (h : App a b u v) (k : App b c v x) : App a c u x := by
  refine ⟨⟨k.grown.os.trans h.grown.os, k.grown.tape.trans h.grown.tape, k.grown.output.trans h.grown.output, Nat.le_trans h.grown.size k.grown.size, fun i hi hne => ?_⟩, ?_⟩
  · have h1 := h.grown.block i hi hne
    have h2 : some i ≠ v.ownBlock := by
      rcases h.step with e | ⟨g, e, hg⟩
      · rw [e]; exact hne
      · rw [e]
        intro e2
        have : i = g := by simpa using e2
        omega
    exact (k.grown.block i (Nat.lt_of_lt_of_le hi h.grown.size) h2).trans h1
  · rcases k.step with e | ⟨g, e, hg⟩
    · rw [e]; exact h.step
    · exact .inr ⟨g, e, Nat.le_trans h.grown.size hg⟩
theorem App.alloc (w : World) (o : Obj) (v : Value) : App w (w.alloc o) v v := ⟨World.grownBy_alloc w o _, .inl rfl⟩
theorem App.low {w w' : World} {v v' : Value} (h : App w w' v v') {base : Nat} (hb : base ≤ w.heap.size) (hv : ∀ g, v.ownBlock = some g → base ≤ g) : Below base w w' := (Below.refl _ _).grown h.grown hb hv
theorem u8s_append (a b : List UInt8) : u8s (a ++ b) = u8s a ++ u8s b := List.map_append
theorem elem8 : Elem Tryz.prog 37 5 (.int .u8 0) 1 1 := ⟨Tryz.underlying37, by kernel_rfl, rfl, by decide⟩
set_option maxHeartbeats 1000000 in
theorem number_calls (base : Nat) (v : Value) (xs : List UInt8) (x : Int) (w : World) (hown : w.ownsRow base 5 1 v xs.length (u8s xs)) (hb : base ≤ w.heap.size) (hl : xs.length ≤ 1000000000) :
    Calls Tryz.prog 44 #[v, .int .i64 x] w fun e w' => ∃ v', e = .returned v' ∧ w'.ownsRow base 5 1 v' (xs.length + 8) (u8s (xs ++ encN x)) ∧ App w w' v v' := by
  have HO := Lib.hid hown
  clear hown
  go_enter Tryz.func44, Tryz.ntmps44
  go_wp2_with fail
  go_loopw [0, 6] (fun o i wr => ∃ k : Nat, k ≤ 8 ∧ i = .int .i64 (k : Int) ∧ wr.ownsRow base 5 1 o (xs.length + k) (u8s (xs ++ (encN x).take k)) ∧ App w wr v o) (fun _ i _ => 8 - (intOf i).toNat)
  case atStart => exact ⟨0, by omega, rfl, by simpa using HO.out, App.refl _ _⟩
  case round =>
    clear HO
    obtain ⟨k, hk, rfl, own, app⟩ := hrel
    have hz := app.grown.size
    obtain ⟨a, c, rfl, _, _, _, _, _⟩ := at_of_owns own
    have HOwn := Lib.hid own
    clear own
    by_cases hlt : k < 8
    · have hnew := Lib.hid (at_alloc wr #[.int .u8 (IntKind.u64.wrap x / 2 ^ (8 * k) % 256)] 5 (0, 0))
      have HO4 := Lib.hid (HOwn.out.alloc (.cells #[.int .u8 (IntKind.u64.wrap x / 2 ^ (8 * k) % 256)] 5))
      have HS : Hid (u8s (xs ++ (encN x).take (k + 1)) = u8s (xs ++ (encN x).take k) ++ [.int .u8 (IntKind.u64.wrap x / 2 ^ (8 * k) % 256)]) := by
        unfold Hid
        rw [encN_take x hlt, ← List.append_assoc, u8s_append _ [byteN x k], byteN_wrap]
        rfl
      clear HOwn
      go_wp2_with (first | (at_builtin; refine wpList_append_at _ rfl (.tmp 9) (.tmp 16) elem8 rfl base (.slice a (xs.length + k) c) (xs.length + k) (u8s (xs ++ (encN x).take k)) rfl HO4.out (some ⟨wr.heap.size, 0, none⟩) 1 1 [.int .u8 (IntKind.u64.wrap x / 2 ^ (8 * k) % 256)] rfl rfl hnew.out (by simp [Value.oneCell']) (by unfold maxLen; omega) (by omega) (by rw [World.size_alloc]; omega) ?_; intro v2 w3 own2 bel2 g2 ob2))
      go_roundw
      case rel =>
        refine ⟨k + 1, by omega, by go_num, by rw [HS.out]; exact own2, app.trans ((App.alloc wr _ _).trans ⟨g2, ?_⟩)⟩
        rcases ob2 with e | e
        · exact .inl e
        · exact .inr ⟨_, e, Nat.le_refl _⟩
      case measure => simp [intOf]; omega
    · obtain rfl : k = 8 := by omega
      go_wp2_with fail
      go_ret
      exact ⟨_, rfl, HOwn.out, app⟩
/-- numbers as bytes -/
def encs (ns : List Int) : List UInt8 := ns.flatMap encN
theorem encs_len (ns : List Int) : (encs ns).length = 8 * ns.length := by
  unfold encs
  induction ns with
  | nil => rfl
  | cons n r ih => rw [List.flatMap_cons, List.length_append, ih, encN_len, List.length_cons]; omega
theorem encs_next {ns : List Int} {k : Nat} (hk : k < ns.length) : encs (ns.take (k + 1)) = encs (ns.take k) ++ encN ns[k] := by
  unfold encs
  rw [List.take_succ_eq_append_getElem hk, List.flatMap_append]
  simp
/-- numbers that lie apart from the row stay -/
def Sep (w : World) (a : Option Addr) (cs : List Value) (v : Value) : Prop := cs ≠ [] → ∀ x, a = some x → v.ownBlock ≠ some x.block ∧ x.block < w.heap.size
theorem at_app {w w' : World} {v v' : Value} {a : Option Addr} {cs : List Value} (h : At w a cs) (p : App w w' v v') (hs : Sep w a cs v) : At w' a cs := by
  intro j u hj
  obtain ⟨b, off, rfl, hc⟩ := h j u hj
  have hne : cs ≠ [] := by rintro rfl; simp at hj
  exact ⟨b, off, rfl, p.grown.cell hc (fun e => (hs hne _ rfl).1 e.symm)⟩
theorem App.apart {w w' : World} {v v' : Value} {a : Option Addr} {cs : List Value} (p : App w w' v v') (hs : Sep w a cs v) : Sep w' a cs v' := fun hne x hx => by
  obtain ⟨h1, h2⟩ := hs hne x hx
  refine ⟨?_, Nat.lt_of_lt_of_le h2 p.grown.size⟩
  rcases p.step with e | ⟨g, e, hg⟩
  · rw [e]; exact h1
  · rw [e]
    intro e2
    have : g = x.block := by simpa using e2
    omega
/-- what was there ahead of the row stands apart from it -/
theorem sep_low {w W : World} {a : Option Addr} {cs : List Value} (h : At w a cs) {e : TypeId} {z n : Nat} {o : Value} {bs : List Value} (own : W.ownsRow (w.heap.size + 1) e z o n bs) (hw : w.heap.size ≤ W.heap.size) : Sep W a cs o := fun hne x hx => by
  have h1 := h.lt x.block x.off x.spot (by rw [hx]) hne
  refine ⟨fun e => ?_, by omega⟩
  have := (own.lt _ e).1
  omega
set_option maxHeartbeats 1000000 in
theorem numbers_calls (base : Nat) (v : Value) (xs : List UInt8) (a : Option Addr) (cap : Nat) (ns : List Int) (w : World) (hown : w.ownsRow base 5 1 v xs.length (u8s xs)) (hb : base ≤ w.heap.size) (hl : xs.length + 8 * ns.length ≤ 1000000000) (hat : At w a (i64s ns)) (hs : Sep w a (i64s ns) v) :
    Calls Tryz.prog 20 #[v, .slice a ns.length cap] w fun e w' => ∃ v', e = .returned v' ∧ w'.ownsRow base 5 1 v' (xs ++ encs ns).length (u8s (xs ++ encs ns)) ∧ App w w' v v' := by
  have HO := Lib.hid hown
  have HA := Lib.hid hat
  have HSep := Lib.hid hs
  clear hown hat hs
  go_enter Tryz.func20, Tryz.ntmps20
  go_wp2_with fail
  go_loopw [0, 9] (fun o i wr => ∃ k : Nat, k ≤ ns.length ∧ i = .int .i64 (k : Int) ∧ wr.ownsRow base 5 1 o (xs ++ encs (ns.take k)).length (u8s (xs ++ encs (ns.take k))) ∧ App w wr v o) (fun _ i _ => ns.length - (intOf i).toNat)
  case atStart => exact ⟨0, by omega, rfl, by simpa [encs] using HO.out, App.refl _ _⟩
  case round =>
    clear HO
    obtain ⟨k, hk, rfl, own, app⟩ := hrel
    have hz := app.grown.size
    by_cases hlt : k < ns.length
    · obtain ⟨b, off, ha, c0⟩ := (at_app HA.out app HSep.out) k _ (i64s_get ns k hlt)
      have hlen : (xs ++ encs (ns.take k)).length ≤ 1000000000 := by rw [List.length_append, encs_len, List.length_take]; omega
      have C := Lib.hid (number_calls base _ (xs ++ encs (ns.take k)) ns[k] wr own (by omega) hlen)
      have HS : Hid (xs ++ encs (ns.take (k + 1)) = (xs ++ encs (ns.take k)) ++ encN ns[k]) := by unfold Hid; rw [encs_next hlt, List.append_assoc]
      have HL : Hid (((xs ++ encs (ns.take k)) ++ encN ns[k]).length = (xs ++ encs (ns.take k)).length + 8) := by unfold Hid; rw [List.length_append, encN_len]
      clear own hlen
      generalize ns[k] = z at *
      rw [ha]
      clear ha
      go_wp2_with (go_at_call 44; refine C.out.mono ?_; rintro e w3 ⟨v3, rfl, own3, app3⟩)
      go_roundw
      case rel => exact ⟨k + 1, by omega, by go_num, by rw [HS.out, HL.out]; exact own3, app.trans app3⟩
      case measure => simp [intOf]; omega
    · obtain rfl : k = ns.length := by omega
      rw [List.take_length] at own
      have HOw := Lib.hid own
      clear own
      go_wp2_with fail
      go_ret
      exact ⟨_, rfl, HOw.out, app⟩
end Go.Proofs.YtocjfjikkdpfdaaGreatDoor.ImgW
namespace Go.Proofs.YtocjfjikkdpfdaaGreatDoor.ImgW
open Go.RowKit Go.Proofs.YtocjfjikkdpfdaaGreatDoor.Bas Go.Proofs.YtocjfjikkdpfdaaGreatDoor.LedM Go.Proofs.YtocjfjikkdpfdaaGreatDoor.LedW

theorem wrap_bits (x : Int) : IntKind.u64.wrap x = ((bitsN x : Nat) : Int) := by
  rw [IntKind.wrap_u64]
  unfold bitsN
  exact (Int.toNat_of_nonneg (Int.emod_nonneg _ (by decide))).symm
theorem byte_mod (x : Int) (k : Nat) : ((bitsN x / 256 ^ k : Nat) : Int) % 256 = ((byteN x k).toNat : Int) := by
  rw [byteN_nat, Int.natCast_emod]
  rfl
theorem bits_next (x : Int) (k : Nat) : ((bitsN x / 256 ^ k : Nat) : Int) / 256 = ((bitsN x / 256 ^ (k + 1) : Nat) : Int) := by
  rw [Nat.pow_succ, ← Nat.div_div_eq_div_mul, Int.natCast_ediv (bitsN x / 256 ^ k)]
  rfl
theorem bits_lt (x : Int) : bitsN x < 18446744073709551616 := by
  unfold bitsN
  have h0 := Int.emod_lt_of_pos x (show (0 : Int) < 18446744073709551616 by decide)
  have h1 := Int.emod_nonneg x (show (18446744073709551616 : Int) ≠ 0 by decide)
  omega
set_option maxHeartbeats 2000000 in
theorem put_calls (base : Nat) (v : Value) (xs : List UInt8) (a : Option Addr) (cap : Nat) (ns : List Int) (w : World) (hown : w.ownsRow base 5 1 v xs.length (u8s xs)) (hb : base ≤ w.heap.size) (hl : xs.length + 8 * ns.length ≤ 1000000000) (hat : At w a (i64s ns)) (hs : Sep w a (i64s ns) v) :
    Calls Tryz.prog 30 #[v, .slice a ns.length cap] w fun e w' => ∃ v', e = .returned v' ∧ w'.ownsRow base 5 1 v' (xs ++ encs ns).length (u8s (xs ++ encs ns)) ∧ App w w' v v' := by
  have HO := Lib.hid hown
  have HA := Lib.hid hat
  have HSep := Lib.hid hs
  clear hown hat hs
  go_enter Tryz.func30, Tryz.ntmps30
  go_wp2_with fail
  go_loopw [0, 11] (fun o i wr => ∃ k : Nat, k ≤ ns.length ∧ i = .int .i64 (k : Int) ∧ wr.ownsRow base 5 1 o (xs ++ encs (ns.take k)).length (u8s (xs ++ encs (ns.take k))) ∧ App w wr v o) (fun _ i _ => ns.length - (intOf i).toNat)
  case atStart => exact ⟨0, by omega, rfl, by simpa [encs] using HO.out, App.refl _ _⟩
  case round =>
    clear HO
    obtain ⟨j, hj, rfl, own, app⟩ := hrel
    have hz := app.grown.size
    by_cases hlj : j < ns.length
    · obtain ⟨b, off, ha, c0⟩ := (at_app HA.out app HSep.out) j _ (i64s_get ns j hlj)
      have hlen : (xs ++ encs (ns.take j)).length ≤ 1000000000 := by rw [List.length_append, encs_len, List.length_take]; omega
      have HS : Hid (xs ++ encs (ns.take (j + 1)) = (xs ++ encs (ns.take j)) ++ encN ns[j]) := by unfold Hid; rw [encs_next hlj, List.append_assoc]
      have HL : Hid (((xs ++ encs (ns.take j)) ++ encN ns[j]).length = (xs ++ encs (ns.take j)).length + 8) := by unfold Hid; rw [List.length_append, encN_len]
      have HOwn0 := Lib.hid own
      have HApp := Lib.hid app
      clear own app
      generalize xs ++ encs (ns.take j) = ys at *
      generalize ns[j] = x at *
      have hwb := wrap_bits x
      rw [ha]
      clear ha
      go_wp2_with fail
      clear c0 hwb
      go_loopw [0, 7, 8] (fun o u i wr => ∃ k : Nat, k ≤ 8 ∧ i = .int .i64 (k : Int) ∧ u = .int .u64 ((bitsN x / 256 ^ k : Nat) : Int) ∧ wr.ownsRow base 5 1 o (ys.length + k) (u8s (ys ++ (encN x).take k)) ∧ App w wr v o) (fun _ _ i _ => 8 - (intOf i).toNat)
      case atStart => exact ⟨0, by omega, rfl, by simp, by simpa using HOwn0.out, HApp.out⟩
      case round =>
        clear HOwn0 HApp
        obtain ⟨k, hk, rfl, rfl, own, app⟩ := hrel
        have hz := app.grown.size
        obtain ⟨ao, c, rfl, _, _, _, _, _⟩ := at_of_owns own
        have HOwn := Lib.hid own
        clear own
        by_cases hlt : k < 8
        · have hbm := byte_mod x k
          have hbn := bits_next x k
          have hnew := Lib.hid (at_alloc wr #[.int .u8 ((byteN x k).toNat : Int)] 5 (0, 0))
          have HO4 := Lib.hid (HOwn.out.alloc (.cells #[.int .u8 ((byteN x k).toNat : Int)] 5))
          have HB : Hid (u8s (ys ++ (encN x).take (k + 1)) = u8s (ys ++ (encN x).take k) ++ [.int .u8 ((byteN x k).toNat : Int)]) := by
            unfold Hid
            rw [encN_take x hlt, ← List.append_assoc, u8s_append _ [byteN x k]]
            rfl
          have hlt2 : bitsN x / 256 ^ k < 18446744073709551616 := Nat.lt_of_le_of_lt (Nat.div_le_self _ _) (bits_lt x)
          clear HOwn
          generalize bitsN x / 256 ^ k = n at *
          generalize hn2 : bitsN x / 256 ^ (k + 1) = n2 at *
          have HN2 := Lib.hid hn2
          clear hn2
          go_wp2_with (first | (at_builtin; refine wpList_append_at _ rfl (.tmp 21) (.tmp 24) elem8 rfl base (.slice ao (ys.length + k) c) (ys.length + k) (u8s (ys ++ (encN x).take k)) rfl HO4.out (some ⟨wr.heap.size, 0, none⟩) 1 1 [.int .u8 ((byteN x k).toNat : Int)] rfl rfl hnew.out (by simp [Value.oneCell']) (by unfold maxLen; omega) (by omega) (by rw [World.size_alloc]; omega) ?_; intro v2 w3 own2 bel2 g2 ob2))
          go_roundw
          case rel =>
            refine ⟨k + 1, by omega, by go_num, by rw [HN2.out], by rw [HB.out]; exact own2, app.trans ((App.alloc wr _ _).trans ⟨g2, ?_⟩)⟩
            rcases ob2 with e | e
            · exact .inl e
            · exact .inr ⟨_, e, Nat.le_refl _⟩
          case measure => simp [intOf]; omega
        · obtain rfl : k = 8 := by omega
          go_wp2_with fail
          go_roundw
          case rel => exact ⟨j + 1, by omega, by go_num, by rw [HS.out, HL.out]; exact HOwn.out, app⟩
          case measure => simp [intOf]; omega
    · obtain rfl : j = ns.length := by omega
      rw [List.take_length] at own
      have HOw := Lib.hid own
      clear own
      go_wp2_with fail
      go_ret
      exact ⟨_, rfl, HOw.out, app⟩
def bitF (b : Bool) : Int := if b then 1 else 0
theorem bit_calls (b : Bool) (w : World) : Calls Tryz.prog 22 #[.bool b] w fun e w' => e = .returned (.int .i64 (bitF b)) ∧ w = w' := by
  cases b
  · go_enter Tryz.func22, Tryz.ntmps22
    go_wp2_with fail
    go_ret
    exact ⟨rfl, rfl⟩
  · go_enter Tryz.func22, Tryz.ntmps22
    go_wp2_with fail
    go_ret
    exact ⟨rfl, rfl⟩
theorem rbit_calls (b : Bool) (w : World) : Calls Tryz.prog 31 #[.bool b] w fun e w' => e = .returned (.int .i64 (bitF b)) ∧ w = w' := by
  cases b
  · go_enter Tryz.func31, Tryz.ntmps31
    go_wp2_with fail
    go_ret
    exact ⟨rfl, rfl⟩
  · go_enter Tryz.func31, Tryz.ntmps31
    go_wp2_with fail
    go_ret
    exact ⟨rfl, rfl⟩
end Go.Proofs.YtocjfjikkdpfdaaGreatDoor.ImgW
namespace Go.Proofs.YtocjfjikkdpfdaaGreatDoor.ImgW
open Go Go.Lib Go.RowKit Go.Proofs.YtocjfjikkdpfdaaGreatDoor.Bas Go.Proofs.YtocjfjikkdpfdaaGreatDoor.LedM Go.Proofs.YtocjfjikkdpfdaaGreatDoor.LedW

theorem str_cells (s : List UInt8) : strCells ⟨s.toArray⟩ = u8s s := by
  simp [strCells, u8s]
theorem str_size (s : List UInt8) : (⟨s.toArray⟩ : ByteArray).size = s.length := by
  show s.toArray.size = _
  simp
def encT (s : List UInt8) : List UInt8 := encN s.length ++ s
theorem text_calls (base : Nat) (v : Value) (xs : List UInt8) (s : List UInt8) (w : World) (hown : w.ownsRow base 5 1 v xs.length (u8s xs)) (hb : base ≤ w.heap.size) (hl : xs.length + 8 + s.length ≤ 1000000000) :
    Calls Tryz.prog 21 #[v, .string ⟨s.toArray⟩] w fun e w' => ∃ v', e = .returned v' ∧ w'.ownsRow base 5 1 v' (xs ++ encT s).length (u8s (xs ++ encT s)) ∧ App w w' v v' := by
  have hsz := str_size s
  have C := Lib.hid (number_calls base v xs (s.length : Int) w hown hb (by omega))
  have HLen : Hid ((xs ++ encT s).length = xs.length + 8 + (⟨s.toArray⟩ : ByteArray).size) := by
    unfold Hid encT
    rw [List.length_append, List.length_append, encN_len, hsz]
    omega
  have HCells : Hid (u8s (xs ++ encT s) = u8s (xs ++ encN s.length) ++ strCells ⟨s.toArray⟩) := by
    unfold Hid encT
    rw [← List.append_assoc, u8s_append, str_cells]
  have hsb : xs.length + 8 + (⟨s.toArray⟩ : ByteArray).size ≤ 1000000000 := by rw [hsz]; exact hl
  have HSB := Lib.hid hsb
  clear hown hsb
  go_enter Tryz.func21, Tryz.ntmps21
  go_wp2_with (first | (go_at_call 44; refine C.out.mono ?_; rintro e w3 ⟨v3, rfl, own3, app3⟩; have hz3 := app3.grown.size) | (at_builtin; refine wpList_append_str_at rfl (.tmp 8) (.tmp 9) elem8 Tryz.underlying9 rfl base v3 (xs.length + 8) (u8s (xs ++ encN s.length)) rfl own3 ⟨s.toArray⟩ rfl (by have := HSB.out; omega) (by have := HSB.out; omega) (by omega) ?_; intro v4 w4 own4 g4 ob4))
  go_ret
  refine ⟨_, rfl, by rw [HLen.out, HCells.out]; exact own4, app3.trans ⟨g4, ?_⟩⟩
  rcases ob4 with e | e
  · exact .inl e
  · exact .inr ⟨_, e, Nat.le_refl _⟩
end Go.Proofs.YtocjfjikkdpfdaaGreatDoor.ImgW
namespace Go.Proofs.YtocjfjikkdpfdaaGreatDoor.ImgW
open Go.RowKit Go.Proofs.YtocjfjikkdpfdaaGreatDoor.Bas Go.Proofs.YtocjfjikkdpfdaaGreatDoor.LedM Go.Proofs.YtocjfjikkdpfdaaGreatDoor.LedW

def encC (c : Int × Int) : List UInt8 := encs [c.1, c.2]
def encU (u : Und) : List UInt8 := encT u.name ++ encs [u.cur, u.price, u.vol]
def encI (x : Ins × Int) : List UInt8 := encs [x.1.kind, x.1.under, x.1.mult, x.1.strike, x.1.expiry, bitF x.1.call, x.1.mark, x.2]
def encA (a : Acc) : List UInt8 := encs [a.parent, bitF a.flag, a.last] ++ encs a.cash
def encP (p : Tri) : List UInt8 := encs [p.1, p.2.1, p.2.2]
def encO (o : Ord) : List UInt8 := encs [o.acct, o.id, o.instr, o.qty, o.price]
def headL (l : Led) : List Int := [l.day, l.curs.length, l.unders.length, l.instrs.length, l.accts.length, l.poss.length, l.orders.length, l.locs.length]
/-- a ledger's image -/
def encL (l : Led) : List UInt8 := encs (headL l) ++ l.curs.flatMap encC ++ l.unders.flatMap encU ++ (l.instrs.zip l.avail).flatMap encI ++ l.accts.flatMap encA ++ l.poss.flatMap encP ++ l.orders.flatMap encO ++ l.locs.flatMap encP
def imageF (l : Led) : List UInt8 × Int := if goodF l = true then (encL l, 0) else ([], 43)
theorem flat_next {α : Type} (f : α → List UInt8) {xs : List α} {k : Nat} (hk : k < xs.length) : (xs.take (k + 1)).flatMap f = (xs.take k).flatMap f ++ f xs[k] := by
  rw [List.take_succ_eq_append_getElem hk, List.flatMap_append]
  simp
theorem flat_size {α : Type} (f : α → List UInt8) (m : Nat) : ∀ (xs : List α), (∀ x ∈ xs, (f x).length ≤ m) → (xs.flatMap f).length ≤ m * xs.length
  | [], _ => by simp
  | x :: r, h => by
    have h1 := h x List.mem_cons_self
    have h2 := flat_size f m r (fun y hy => h y (List.mem_cons_of_mem _ hy))
    rw [List.flatMap_cons, List.length_append, List.length_cons, Nat.mul_succ]
    omega
theorem good_parts {l : Led} (h : goodF l = true) : l.curs.length ≤ 4 ∧ undB l.curs.length l.unders = true ∧ allI (accOk l.curs.length) 0 l.accts = true ∧ l.avail.length = l.instrs.length := by
  unfold goodF at h
  simp only [Bool.and_eq_true] at h
  obtain ⟨_, h2, h3, _, _, h6, _⟩ := h
  unfold thingsF at h2
  simp only [Bool.and_eq_true, decide_eq_true_eq] at h2
  unfold accountsF at h3
  rw [Bool.and_eq_true] at h3
  unfold locsF at h6
  simp only [Bool.and_eq_true, decide_eq_true_eq] at h6
  exact ⟨h2.1.2.1, h2.2.2.1, h3.2, by omega⟩
theorem good_cash {l : Led} (h : goodF l = true) : ∀ a ∈ l.accts, a.cash.length ≤ 4 := fun a ha => by
  obtain ⟨h1, _, h3, _⟩ := good_parts h
  obtain ⟨k, hk, rfl⟩ := List.getElem_of_mem ha
  have := allI_at h3 hk
  unfold accOk at this
  rw [Bool.and_eq_true, decide_eq_true_eq] at this
  have := this.1.1
  omega
theorem under_name {n : Nat} {u : Und} (h : undOk n u = true) : u.name.length ≤ 8 := by
  unfold undOk at h
  have h1 := ((RefW.underF_iff _ _ _ _ _).1 h).1
  unfold RefW.nameF at h1
  rw [Bool.and_eq_true, decide_eq_true_eq] at h1
  have h2 := h1.1.2
  rwa [str_size] at h2
theorem good_name {l : Led} (h : goodF l = true) : ∀ u ∈ l.unders, u.name.length ≤ 8 := fun u hu => by
  have h2 := (good_parts h).2.1
  unfold undB at h2
  rw [Bool.and_eq_true, List.all_eq_true] at h2
  have h3 := h2.1 u hu
  unfold undOk at h3
  exact under_name h3
section
variable {w A B : World} {s : Lists} {l : Led} {vs : List (Value × Acc)}
theorem ledH_app {o o' : Value} {n : Nat} {bs : List Value} (h : LedH w A w.heap.size s l vs) (hat : LedAt w s l vs) (own : A.ownsRow (w.heap.size + 1) 5 1 o n bs) (p : App A B o o') : LedH w B w.heap.size s l vs := by
  have low : Below w.heap.size w B := h.low.trans (p.low h.low.size (fun g hg => by have := (own.lt g hg).1; omega))
  exact ⟨box_grown h.box own (by decide) p.grown, hat.keep low, low⟩
theorem recH_app {g : Nat} {t : TypeId} {cs : Array Value} {o o' : Value} {n : Nat} {bs : List Value} (h : RecH w A s l vs g t cs) (hat : LedAt w s l vs) (ht : 5 ≠ t) (own : A.ownsRow (w.heap.size + 1) 5 1 o n bs) (p : App A B o o') : RecH w B s l vs g t cs :=
  ⟨ledH_app h.led hat own p, box_grown h.rec_ own ht p.grown⟩
end
/-- an array just laid stands apart from the row -/
theorem new_apart {W : World} {b : Nat} {o : Value} {n : Nat} {bs : List Value} (own : W.ownsRow b 5 1 o n bs) (C : Array Value) (cs : List Value) : Sep (W.alloc (.cells C 3)) (some ⟨W.heap.size, 0, none⟩) cs o := fun _ x hx => by
  cases hx
  refine ⟨fun e => ?_, by simp⟩
  have := (own.lt _ e).2
  simp at this
theorem avail_cell {W : World} {s : Lists} {l : Led} {vs : List (Value × Acc)} (h : LedAt W s l vs) {b off : Nat} (ha : s.a7 = some ⟨b, off, none⟩) {k : Nat} (hk : k < l.avail.length) : W.cell? ⟨b, off + k, none⟩ = some (.int .i64 l.avail[k]) := by
  obtain ⟨b', off', h1, h2⟩ := h.avail k _ (i64s_get l.avail k hk)
  rw [ha] at h1
  cases h1
  exact h2
/-- numbers in an array just laid -/
theorem num_step {b : Nat} {A : World} {o : Value} {bs : List UInt8} (own : A.ownsRow b 5 1 o bs.length (u8s bs)) (hb : b ≤ A.heap.size) (ns : List Int) (hl : bs.length + 8 * ns.length ≤ 1000000000) (C : Array Value) (hC : C.toList = i64s ns) (m : Nat) (hm : m = ns.length) :
    Calls Tryz.prog 20 #[o, .slice (some ⟨A.heap.size, 0, none⟩) m m] (A.alloc (.cells C 3)) fun e w' => ∃ o', e = .returned o' ∧ w'.ownsRow b 5 1 o' (bs ++ encs ns).length (u8s (bs ++ encs ns)) ∧ App A w' o o' := by
  subst hm
  have hat := at_alloc A C 3 (0, 0)
  rw [hC] at hat
  refine (numbers_calls b o bs (some ⟨A.heap.size, 0, none⟩) ns.length ns _ (own.alloc _) (by rw [World.size_alloc]; omega) hl hat (new_apart own C _)).mono ?_
  rintro e w' ⟨o', rfl, h1, h2⟩
  exact ⟨o', rfl, h1, (App.alloc A _ o).trans h2⟩
/-- numbers in an array just laid -/
theorem put_step {b : Nat} {A : World} {o : Value} {bs : List UInt8} (own : A.ownsRow b 5 1 o bs.length (u8s bs)) (hb : b ≤ A.heap.size) (ns : List Int) (hl : bs.length + 8 * ns.length ≤ 1000000000) (C : Array Value) (hC : C.toList = i64s ns) (m : Nat) (hm : m = ns.length) :
    Calls Tryz.prog 30 #[o, .slice (some ⟨A.heap.size, 0, none⟩) m m] (A.alloc (.cells C 3)) fun e w' => ∃ o', e = .returned o' ∧ w'.ownsRow b 5 1 o' (bs ++ encs ns).length (u8s (bs ++ encs ns)) ∧ App A w' o o' := by
  subst hm
  have hat := at_alloc A C 3 (0, 0)
  rw [hC] at hat
  refine (put_calls b o bs (some ⟨A.heap.size, 0, none⟩) ns.length ns _ (own.alloc _) (by rw [World.size_alloc]; omega) hl hat (new_apart own C _)).mono ?_
  rintro e w' ⟨o', rfl, h1, h2⟩
  exact ⟨o', rfl, h1, (App.alloc A _ o).trans h2⟩
end Go.Proofs.YtocjfjikkdpfdaaGreatDoor.ImgW
namespace Go.Proofs.YtocjfjikkdpfdaaGreatDoor.ImgW
open Go.RowKit Go.Proofs.YtocjfjikkdpfdaaGreatDoor.Bas Go.Proofs.YtocjfjikkdpfdaaGreatDoor.LedM Go.Proofs.YtocjfjikkdpfdaaGreatDoor.LedW
set_option maxHeartbeats 8000000 in
set_option maxRecDepth 100000 in
theorem image_calls (s : Lists) (l : Led) (vs : List (Value × Acc)) (w : World) (hat : LedAt w s l vs) (hf : LedFit l) :
    Calls Tryz.prog 8 #[ledV s l] w fun e w' => ∃ o, e = .returned (.tuple #[o, .int .i64 (imageF l).2]) ∧ w'.ownsRow (w.heap.size + 1) 5 1 o (imageF l).1.length (u8s (imageF l).1) ∧ Below w.heap.size w w' := by
  have X := ledH_new w s l vs hat
  obtain ⟨n1, n2, n3, n4, n5, n6, n7, n8⟩ := hf.len
  have HFit := Lib.hid hf
  have HAt := Lib.hid hat
  have HLen := Lib.hid (LedAt.len hat)
  have G := Lib.hid (fun W (h : LedH w W w.heap.size s l vs) => lgood_calls s l vs W h.at_ hf)
  have HI : Hid (imageF l = if goodF l = true then (encL l, 0) else ([], 43)) := rfl
  unfold ledV at G ⊢
  clear hat hf
  generalize imageF l = q at HI ⊢
  go_enter Tryz.func8, Tryz.ntmps8
  go_upto_region 1 with fail
  generalize w.alloc (.cells #[.int .i64 l.day, .slice s.a1 l.curs.length s.c1, .slice s.a2 l.unders.length s.c2, .slice s.a3 l.instrs.length s.c3, .slice s.a4 l.accts.length s.c4, .slice s.a5 l.poss.length s.c5, .slice s.a6 l.orders.length s.c6, .slice s.a7 l.avail.length s.c7, .slice s.a8 l.locs.length s.c8] 31) = w0 at *
  have XH := Lib.hid X
  clear X
  have c0 := XH.out.c0
  have c1 := XH.out.c1
  have c2 := XH.out.c2
  have c3 := XH.out.c3
  have c4 := XH.out.c4
  have c5 := XH.out.c5
  have c6 := XH.out.c6
  have c7 := XH.out.c7
  have c8 := XH.out.c8
  cases hg : goodF l with
  | false =>
    rw [hg] at G HI
    have HQ : Hid (q = ([], 43)) := HI.out
    clear hg HI
    go_wp2_with (go_at_call 19; refine (G.out _ XH.out).mono ?_; rintro e w1 ⟨rfl, b1⟩)
    go_ret2
    rw [HQ.out]
    exact ⟨_, rfl, World.ownsRow_nil _ _ _ _, XH.out.low.trans (b1.mono XH.out.low.size)⟩
  | true =>
  rw [hg] at G HI
  have HQ : Hid (q = (encL l, 0)) := HI.out
  have HCash := Lib.hid (good_cash hg)
  have HName := Lib.hid (good_name hg)
  have HAv := Lib.hid (good_parts hg).2.2.2
  clear hg HI
  go_upto_region 3 with (go_at_call 19; refine (G.out _ XH.out).mono ?_; rintro e w1 ⟨rfl, b1⟩; have X1 := Lib.hid (XH.out.keep b1))
  clear c0 c1 c2 c3 c4 c5 c6 c7 c8 XH b1 G
  have c0 := X1.out.c0
  have c1 := X1.out.c1
  have c2 := X1.out.c2
  have c3 := X1.out.c3
  have c4 := X1.out.c4
  have c5 := X1.out.c5
  have c6 := X1.out.c6
  have c7 := X1.out.c7
  have c8 := X1.out.c8
  have HST := Lib.hid (num_step (b := w.heap.size + 1) (A := w1) (o := .slice none 0 0) (bs := []) (World.ownsRow_nil _ _ _ _) X1.out.box.lt (headL l) (by simp [headL]) #[.int .i64 l.day, .int .i64 l.curs.length, .int .i64 l.unders.length, .int .i64 l.instrs.length, .int .i64 l.accts.length, .int .i64 l.poss.length, .int .i64 l.orders.length, .int .i64 l.locs.length] rfl 8 rfl)
  go_upto_region 4 with (go_at_call 20; refine HST.out.mono ?_; rintro e w2 ⟨o2, rfl, own2, app2⟩)
  have X2 := Lib.hid (ledH_app X1.out HAt.out (World.ownsRow_nil _ _ _ _ : w1.ownsRow (w.heap.size + 1) 5 1 (.slice none 0 0) 0 []) app2)
  rw [List.nil_append] at own2
  have HO := Lib.hid own2
  have HB : Hid ((encs (headL l)).length ≤ 64) := by unfold Hid; rw [encs_len]; exact Nat.le_refl _
  have HP0 : Hid (encL l = encs (headL l) ++ l.curs.flatMap encC ++ l.unders.flatMap encU ++ (l.instrs.zip l.avail).flatMap encI ++ l.accts.flatMap encA ++ l.poss.flatMap encP ++ l.orders.flatMap encO ++ l.locs.flatMap encP) := rfl
  clear c0 c1 c2 c3 c4 c5 c6 c7 c8 X1 own2 app2 HST
  generalize encs (headL l) = pre at HO HB HP0
  have c1 := X2.out.c1
  have hlt0 := X2.out.box.lt
  clear hlt0
  go_wp2_with fail
  clear c1
  go_loopw [4, 50] (fun o i wr => ∃ k : Nat, k ≤ l.curs.length ∧ i = .int .i64 (k : Int) ∧ LedH w wr w.heap.size s l vs ∧ wr.ownsRow (w.heap.size + 1) 5 1 o (pre ++ (l.curs.take k).flatMap encC).length (u8s (pre ++ (l.curs.take k).flatMap encC))) (fun _ i _ => l.curs.length - (intOf i).toNat)
  case atStart => exact ⟨0, by omega, rfl, X2.out, by simpa using HO.out⟩
  case round =>
    clear X2 HO
    obtain ⟨k, hk, rfl, X, own⟩ := hrel
    by_cases hlt : k < l.curs.length
    · have hsz : (pre ++ (l.curs.take k).flatMap encC).length ≤ 16000064 := by
        have h1 := flat_size encC 16 (l.curs.take k) (fun x _ => by unfold encC; rw [encs_len]; exact Nat.le_refl _)
        have h2 := HB.out
        have h3 : (l.curs.take k).length ≤ 1000000 := by rw [List.length_take]; omega
        have h4 : 16 * (l.curs.take k).length ≤ 16 * 1000000 := Nat.mul_le_mul_left _ h3
        rw [List.length_append]
        omega
      have HNX := Lib.hid (flat_next encC hlt)
      obtain ⟨b, off, ha, C1⟩ := rec_at len_cur (by decide) X.at_.curs hlt
      generalize l.curs[k] = x at *
      obtain ⟨x0, x1⟩ := x
      have d0 := C1 0 _ rfl
      have d1 := C1 1 _ rfl
      clear C1
      simp only [← Nat.add_assoc, Nat.add_zero] at d0 d1
      rw [ha]
      clear ha
      go_upto_region 7 with fail
      have RA := Lib.hid (RecH.new X 55 #[.int .i64 x0, .int .i64 x1])
      have OA := Lib.hid (own.alloc (.cells #[.int .i64 x0, .int .i64 x1] 55))
      have hz := X.box.lt
      clear X own d0 d1
      have hz2 : w.heap.size + 1 ≤ (wr.alloc (.cells #[.int .i64 x0, .int .i64 x1] 55)).heap.size := by rw [World.size_alloc]; omega
      generalize wr.alloc (.cells #[.int .i64 x0, .int .i64 x1] 55) = w3 at *
      obtain ⟨g, hg⟩ : ∃ g, g = wr.heap.size := ⟨_, rfl⟩
      rw [← hg] at RA ⊢
      clear hg hz
      have HPre : Hid (pre ++ (l.curs.take (k + 1)).flatMap encC = pre ++ (l.curs.take k).flatMap encC ++ encC ⟨x0, x1⟩) := by unfold Hid; rw [HNX.out, List.append_assoc]
      clear HNX
      generalize pre ++ (l.curs.take k).flatMap encC = bs at HPre OA hsz
      have e0 : w3.cell? ⟨g, 0, none⟩ = some (.int .i64 x0) := RA.out.rec_.cell 0
      have e1 : w3.cell? ⟨g, 1, none⟩ = some (.int .i64 x1) := RA.out.rec_.cell 1
      have HS := Lib.hid (num_step OA.out hz2 [x0, x1] (by simp only [List.length_cons, List.length_nil]; omega) #[.int .i64 x0, .int .i64 x1] rfl 2 rfl)
      go_wp2_with (go_at_call 20; refine HS.out.mono ?_; rintro e w4 ⟨o4, rfl, own4, app4⟩)
      go_roundw
      case rel => exact ⟨k + 1, by omega, by go_num, (recH_app RA.out HAt.out (by decide) OA.out app4).led, by rw [HPre.out]; exact own4⟩
      case measure => simp [intOf]; omega
    · obtain rfl : k = l.curs.length := by omega
      rw [List.take_length] at own
      have HB2 : Hid ((pre ++ l.curs.flatMap encC).length ≤ 16000064) := by
        have h1 := flat_size encC 16 l.curs (fun x _ => by unfold encC; rw [encs_len]; exact Nat.le_refl _)
        have h2 := HB.out
        have h3 : l.curs.length ≤ 1000000 := by omega
        have h4 : 16 * l.curs.length ≤ 16 * 1000000 := Nat.mul_le_mul_left _ h3
        unfold Hid
        rw [List.length_append]
        omega
      have HO := Lib.hid own
      have X2 := Lib.hid X
      clear own X HB
      have HB := HB2
      clear HB2
      generalize pre ++ l.curs.flatMap encC = pre2 at HO HB HP0
      obtain ⟨pre, hpre⟩ : ∃ p, p = pre2 := ⟨_, rfl⟩
      subst hpre
      have c2 := X2.out.c2
      have hlt0 := X2.out.box.lt
      clear hlt0
      go_wp2_with fail
      clear c2
      go_loopw [4, 65] (fun o i wr => ∃ k : Nat, k ≤ l.unders.length ∧ i = .int .i64 (k : Int) ∧ LedH w wr w.heap.size s l vs ∧ wr.ownsRow (w.heap.size + 1) 5 1 o (pre ++ (l.unders.take k).flatMap encU).length (u8s (pre ++ (l.unders.take k).flatMap encU))) (fun _ i _ => l.unders.length - (intOf i).toNat)
      case atStart => exact ⟨0, by omega, rfl, X2.out, by simpa using HO.out⟩
      case round =>
        clear X2 HO
        obtain ⟨k, hk, rfl, X, own⟩ := hrel
        by_cases hlt : k < l.unders.length
        · have hsz : (pre ++ (l.unders.take k).flatMap encU).length ≤ 56000064 := by
            have h1 := flat_size encU 40 (l.unders.take k) (fun u hu => by have h1 := HName.out u (List.mem_of_mem_take hu); unfold encU encT; rw [List.length_append, List.length_append, encN_len, encs_len]; simp only [List.length_cons, List.length_nil]; omega)
            have h2 := HB.out
            have h3 : (l.unders.take k).length ≤ 1000000 := by rw [List.length_take]; omega
            have h4 : 40 * (l.unders.take k).length ≤ 40 * 1000000 := Nat.mul_le_mul_left _ h3
            rw [List.length_append]
            omega
          have HNX := Lib.hid (flat_next encU hlt)
          obtain ⟨b, off, ha, C1⟩ := rec_at len_und (by decide) X.at_.unders hlt
          have hnl := HName.out _ (List.getElem_mem hlt)
          generalize l.unders[k] = x at *
          obtain ⟨x0, x1, x2, x3⟩ := x
          simp only at hnl
          have d0 := C1 0 _ rfl
          have d1 := C1 1 _ rfl
          have d2 := C1 2 _ rfl
          have d3 := C1 3 _ rfl
          clear C1
          simp only [← Nat.add_assoc, Nat.add_zero] at d0 d1 d2 d3
          rw [ha]
          clear ha
          go_upto_region 12 with fail
          have RA := Lib.hid (RecH.new X 57 #[.string ⟨x0.toArray⟩, .int .i64 x1, .int .i64 x2, .int .i64 x3])
          have OA := Lib.hid (own.alloc (.cells #[.string ⟨x0.toArray⟩, .int .i64 x1, .int .i64 x2, .int .i64 x3] 57))
          have hz := X.box.lt
          clear X own d0 d1 d2 d3
          have hz2 : w.heap.size + 1 ≤ (wr.alloc (.cells #[.string ⟨x0.toArray⟩, .int .i64 x1, .int .i64 x2, .int .i64 x3] 57)).heap.size := by rw [World.size_alloc]; omega
          generalize wr.alloc (.cells #[.string ⟨x0.toArray⟩, .int .i64 x1, .int .i64 x2, .int .i64 x3] 57) = w3 at *
          obtain ⟨g, hg⟩ : ∃ g, g = wr.heap.size := ⟨_, rfl⟩
          rw [← hg] at RA ⊢
          clear hg hz
          have HPre : Hid (pre ++ (l.unders.take (k + 1)).flatMap encU = pre ++ (l.unders.take k).flatMap encU ++ encU ⟨x0, x1, x2, x3⟩) := by unfold Hid; rw [HNX.out, List.append_assoc]
          clear HNX
          generalize pre ++ (l.unders.take k).flatMap encU = bs at HPre OA hsz
          refine stage_region 12 (fun W => W.cell? ⟨g, 0, none⟩ = some (.string ⟨x0.toArray⟩) ∧ W.cell? ⟨g, 1, none⟩ = some (.int .i64 x1) ∧ W.cell? ⟨g, 2, none⟩ = some (.int .i64 x2) ∧ W.cell? ⟨g, 3, none⟩ = some (.int .i64 x3) ∧ RecH w W s l vs g 57 #[.string ⟨x0.toArray⟩, .int .i64 x1, .int .i64 x2, .int .i64 x3]) (by kernel_rfl) ?_
          have HS := RA.out.drew
          refine' stage_take (i := 0) _ rfl (by kernel_rfl) (by kernel_rfl) (by kernel_rfl) (by kernel_rfl) (fun _ _ _ h => h) ⟨HS.rec_.cell 0, HS.rec_.cell 1, HS.rec_.cell 2, HS.rec_.cell 3, HS⟩ _ (fun W hW => _) _
          rotate_left
          focus (go_simp; done)
          focus (obtain ⟨k1, k2, k3, k4, X9⟩ := hW; go_simp; first | done | (with_reducible rfl))
          simp only [Act.put, List.setIfInBounds_toArray, List.set_cons_zero, List.set_cons_succ]
          refine' stage_take (i := 1) _ rfl (by kernel_rfl) (by kernel_rfl) (by kernel_rfl) (by kernel_rfl) (fun _ _ _ h => h) ⟨HS.rec_.cell 0, HS.rec_.cell 1, HS.rec_.cell 2, HS.rec_.cell 3, HS⟩ _ (fun W hW => _) _
          rotate_left
          focus (go_simp; done)
          focus (obtain ⟨k1, k2, k3, k4, X9⟩ := hW; go_simp; first | done | (with_reducible rfl))
          simp only [Act.put, List.setIfInBounds_toArray, List.set_cons_zero, List.set_cons_succ]
          refine' stage_take (i := 2) _ rfl (by kernel_rfl) (by kernel_rfl) (by kernel_rfl) (by kernel_rfl) (fun _ _ _ h => h) ⟨HS.rec_.cell 0, HS.rec_.cell 1, HS.rec_.cell 2, HS.rec_.cell 3, HS⟩ _ (fun W hW => _) _
          rotate_left
          focus (go_simp; done)
          focus (obtain ⟨k1, k2, k3, k4, X9⟩ := hW; go_simp; first | done | (with_reducible rfl))
          simp only [Act.put, List.setIfInBounds_toArray, List.set_cons_zero, List.set_cons_succ]
          refine' stage_take (i := 4) _ rfl (by kernel_rfl) (by kernel_rfl) (by kernel_rfl) (by kernel_rfl) (fun _ _ _ h => h) ⟨HS.rec_.cell 0, HS.rec_.cell 1, HS.rec_.cell 2, HS.rec_.cell 3, HS⟩ _ (fun W hW => _) _
          rotate_left
          focus (go_simp; done)
          focus (obtain ⟨k1, k2, k3, k4, X9⟩ := hW; go_simp; first | done | (with_reducible rfl))
          simp only [Act.put, List.setIfInBounds_toArray, List.set_cons_zero, List.set_cons_succ]
          refine' stage_take (i := 5) _ rfl (by kernel_rfl) (by kernel_rfl) (by kernel_rfl) (by kernel_rfl) (fun _ _ _ h => h) ⟨HS.rec_.cell 0, HS.rec_.cell 1, HS.rec_.cell 2, HS.rec_.cell 3, HS⟩ _ (fun W hW => _) _
          rotate_left
          focus (go_simp; done)
          focus (obtain ⟨k1, k2, k3, k4, X9⟩ := hW; go_simp; first | done | (with_reducible rfl))
          simp only [Act.put, List.setIfInBounds_toArray, List.set_cons_zero, List.set_cons_succ]
          refine' stage_take (i := 6) _ rfl (by kernel_rfl) (by kernel_rfl) (by kernel_rfl) (by kernel_rfl) (fun _ _ _ h => h) ⟨HS.rec_.cell 0, HS.rec_.cell 1, HS.rec_.cell 2, HS.rec_.cell 3, HS⟩ _ (fun W hW => _) _
          rotate_left
          focus (go_simp; done)
          focus (obtain ⟨k1, k2, k3, k4, X9⟩ := hW; go_simp; first | done | (with_reducible rfl))
          simp only [Act.put, List.setIfInBounds_toArray, List.set_cons_zero, List.set_cons_succ]
          refine' stage_take (i := 7) _ rfl (by kernel_rfl) (by kernel_rfl) (by kernel_rfl) (by kernel_rfl) (fun _ _ _ h => h) ⟨HS.rec_.cell 0, HS.rec_.cell 1, HS.rec_.cell 2, HS.rec_.cell 3, HS⟩ _ (fun W hW => _) _
          rotate_left
          focus (go_simp; done)
          focus (obtain ⟨k1, k2, k3, k4, X9⟩ := hW; go_simp; first | done | (with_reducible rfl))
          simp only [Act.put, List.setIfInBounds_toArray, List.set_cons_zero, List.set_cons_succ]
          refine' stage_take (i := 8) _ rfl (by kernel_rfl) (by kernel_rfl) (by kernel_rfl) (by kernel_rfl) (fun _ _ _ h => h) ⟨HS.rec_.cell 0, HS.rec_.cell 1, HS.rec_.cell 2, HS.rec_.cell 3, HS⟩ _ (fun W hW => _) _
          rotate_left
          focus (go_simp; done)
          focus (obtain ⟨k1, k2, k3, k4, X9⟩ := hW; go_simp; first | done | (with_reducible rfl))
          simp only [Act.put, List.setIfInBounds_toArray, List.set_cons_zero, List.set_cons_succ]
          refine' stage_take (i := 9) _ rfl (by kernel_rfl) (by kernel_rfl) (by kernel_rfl) (by kernel_rfl) (fun _ _ _ h => h) ⟨HS.rec_.cell 0, HS.rec_.cell 1, HS.rec_.cell 2, HS.rec_.cell 3, HS⟩ _ (fun W hW => _) _
          rotate_left
          focus (go_simp; done)
          focus (obtain ⟨k1, k2, k3, k4, X9⟩ := hW; go_simp; first | done | (with_reducible rfl))
          simp only [Act.put, List.setIfInBounds_toArray, List.set_cons_zero, List.set_cons_succ]
          refine stage_both (i := 3) (j := 10) rfl rfl (by kernel_rfl) ?_ ?_ (fun K hK => ?_) (fun K hK => ?_)
          focus (go_simp; done)
          focus (go_simp; done)
          · go_simp
            go_at_call 21
            refine (text_calls (w.heap.size + 1) _ bs x0 w3.drew (own_drew OA.out) hz2 (by omega)).mono ?_
            rintro e w5 ⟨o5, rfl, own5, app5⟩
            go_simp
            clear HS
            have HS := recH_app RA.out.drew HAt.out (by decide) (own_drew OA.out) app5
            refine hK.out _ _ (fun _ => ⟨HS.rec_.cell 0, HS.rec_.cell 1, HS.rec_.cell 2, HS.rec_.cell 3, HS⟩) ?_
            clear hK K
            try simp only [Act.put, List.setIfInBounds_toArray, List.set_cons_zero, List.set_cons_succ]
            have hz5 := app5.grown.size
            refine stage_only (i := 10) rfl (by kernel_rfl) ?_ (fun K hK => ?_)
            focus (go_simp; done)
            go_simp
            have HS5 := HS
            replace HS := HS.keep ((Below.refl _ _).alloc (Nat.le_refl _) (.cells #[.int .i64 x1, .int .i64 x2, .int .i64 x3] 3))
            refine hK.out _ _ (fun _ => ⟨HS.rec_.cell 0, HS.rec_.cell 1, HS.rec_.cell 2, HS.rec_.cell 3, HS⟩) ?_
            clear hK K
            try simp only [Act.put, List.setIfInBounds_toArray, List.set_cons_zero, List.set_cons_succ]
            have hl5 : (bs ++ encT x0).length + 8 * 3 ≤ 1000000000 := by unfold encT; rw [List.length_append, List.length_append, encN_len]; omega
            refine stage_only (i := 11) rfl (by kernel_rfl) ?_ (fun K hK => ?_)
            focus (go_simp; done)
            go_simp
            go_at_call 20
            refine (num_step own5 (Nat.le_trans hz2 hz5) [x1, x2, x3] hl5 #[.int .i64 x1, .int .i64 x2, .int .i64 x3] rfl 3 rfl).mono ?_
            rintro e w6 ⟨o6, rfl, own6, app6⟩
            go_simp
            clear HS
            have HS := recH_app HS5 HAt.out (by decide) own5 app6
            refine hK.out _ _ (fun _ => ⟨HS.rec_.cell 0, HS.rec_.cell 1, HS.rec_.cell 2, HS.rec_.cell 3, HS⟩) ?_
            clear hK K
            try simp only [Act.put, List.setIfInBounds_toArray, List.set_cons_zero, List.set_cons_succ]
            refine stage_only (i := 12) rfl (by kernel_rfl) ?_ (fun K hK => ?_)
            focus (go_simp; done)
            go_simp
            refine hK.out _ _ (fun h => absurd h (by decide)) ?_
            clear hK K
            try simp only [Act.put, List.setIfInBounds_toArray, List.set_cons_zero, List.set_cons_succ]
            refine stage_end (by kernel_rfl) ?_
            have RE := Lib.hid HS
            clear HS
            go_wp2_with fail
            go_roundw
            case rel => exact ⟨k + 1, by omega, by go_num, RE.out.led, by rw [HPre.out]; unfold encU; rw [← List.append_assoc]; exact own6⟩
            case measure => simp [intOf]; omega
          · go_simp
            replace HS := HS.keep ((Below.refl _ _).alloc (Nat.le_refl _) (.cells #[.int .i64 x1, .int .i64 x2, .int .i64 x3] 3))
            refine hK.out _ _ (fun _ => ⟨HS.rec_.cell 0, HS.rec_.cell 1, HS.rec_.cell 2, HS.rec_.cell 3, HS⟩) ?_
            clear hK K
            try simp only [Act.put, List.setIfInBounds_toArray, List.set_cons_zero, List.set_cons_succ]
            refine stage_only (i := 3) rfl (by kernel_rfl) ?_ (fun K hK => ?_)
            focus (go_simp; done)
            go_simp
            go_at_call 21
            refine (text_calls (w.heap.size + 1) _ bs x0 (w3.drew.alloc (.cells #[.int .i64 x1, .int .i64 x2, .int .i64 x3] 3)) ((own_drew OA.out).alloc _) (by rw [World.size_alloc]; exact Nat.le_succ_of_le hz2) (by omega)).mono ?_
            rintro e w5 ⟨o5, rfl, own5, app5⟩
            go_simp
            have app5b := (App.alloc w3.drew (.cells #[.int .i64 x1, .int .i64 x2, .int .i64 x3] 3) _).trans app5
            clear HS
            have HS := recH_app RA.out.drew HAt.out (by decide) (own_drew OA.out) app5b
            refine hK.out _ _ (fun _ => ⟨HS.rec_.cell 0, HS.rec_.cell 1, HS.rec_.cell 2, HS.rec_.cell 3, HS⟩) ?_
            clear hK K
            try simp only [Act.put, List.setIfInBounds_toArray, List.set_cons_zero, List.set_cons_succ]
            have hz5 := app5b.grown.size
            have hl5 : (bs ++ encT x0).length + 8 * 3 ≤ 1000000000 := by unfold encT; rw [List.length_append, List.length_append, encN_len]; omega
            have hat5 : At w5 (some ⟨w3.drew.heap.size, 0, none⟩) (i64s [x1, x2, x3]) := at_app (at_alloc w3.drew #[.int .i64 x1, .int .i64 x2, .int .i64 x3] 3 (0, 0)) app5 (new_apart (own_drew OA.out) _ _)
            have hsp5 := app5.apart (new_apart (own_drew OA.out) #[.int .i64 x1, .int .i64 x2, .int .i64 x3] (i64s [x1, x2, x3]))
            refine stage_only (i := 11) rfl (by kernel_rfl) ?_ (fun K hK => ?_)
            focus (go_simp; done)
            go_simp
            go_at_call 20
            refine (numbers_calls (w.heap.size + 1) o5 (bs ++ encT x0) (some ⟨w3.drew.heap.size, 0, none⟩) 3 [x1, x2, x3] w5 own5 (Nat.le_trans hz2 hz5) hl5 hat5 hsp5).mono ?_
            rintro e w6 ⟨o6, rfl, own6, app6⟩
            go_simp
            have HS5 := HS
            clear HS
            have HS := recH_app HS5 HAt.out (by decide) own5 app6
            refine hK.out _ _ (fun _ => ⟨HS.rec_.cell 0, HS.rec_.cell 1, HS.rec_.cell 2, HS.rec_.cell 3, HS⟩) ?_
            clear hK K
            try simp only [Act.put, List.setIfInBounds_toArray, List.set_cons_zero, List.set_cons_succ]
            refine stage_only (i := 12) rfl (by kernel_rfl) ?_ (fun K hK => ?_)
            focus (go_simp; done)
            go_simp
            refine hK.out _ _ (fun h => absurd h (by decide)) ?_
            clear hK K
            try simp only [Act.put, List.setIfInBounds_toArray, List.set_cons_zero, List.set_cons_succ]
            refine stage_end (by kernel_rfl) ?_
            have RE := Lib.hid HS
            clear HS
            go_wp2_with fail
            go_roundw
            case rel => exact ⟨k + 1, by omega, by go_num, RE.out.led, by rw [HPre.out]; unfold encU; rw [← List.append_assoc]; exact own6⟩
            case measure => simp [intOf]; omega
        · obtain rfl : k = l.unders.length := by omega
          rw [List.take_length] at own
          have HB2 : Hid ((pre ++ l.unders.flatMap encU).length ≤ 56000064) := by
            have h1 := flat_size encU 40 l.unders (fun u hu => by have h1 := HName.out u hu; unfold encU encT; rw [List.length_append, List.length_append, encN_len, encs_len]; simp only [List.length_cons, List.length_nil]; omega)
            have h2 := HB.out
            have h3 : l.unders.length ≤ 1000000 := by omega
            have h4 : 40 * l.unders.length ≤ 40 * 1000000 := Nat.mul_le_mul_left _ h3
            unfold Hid
            rw [List.length_append]
            omega
          have HO := Lib.hid own
          have X2 := Lib.hid X
          clear own X HB
          have HB := HB2
          clear HB2
          generalize pre ++ l.unders.flatMap encU = pre2 at HO HB HP0
          obtain ⟨pre, hpre⟩ : ∃ p, p = pre2 := ⟨_, rfl⟩
          subst hpre
          have c3 := X2.out.c3
          have hlt0 := X2.out.box.lt
          clear hlt0
          go_wp2_with fail
          clear c3
          go_loopw [4, 85] (fun o i wr => ∃ k : Nat, k ≤ l.instrs.length ∧ i = .int .i64 (k : Int) ∧ LedH w wr w.heap.size s l vs ∧ wr.ownsRow (w.heap.size + 1) 5 1 o (pre ++ ((l.instrs.zip l.avail).take k).flatMap encI).length (u8s (pre ++ ((l.instrs.zip l.avail).take k).flatMap encI))) (fun _ i _ => l.instrs.length - (intOf i).toNat)
          case atStart => exact ⟨0, by omega, rfl, X2.out, by simpa using HO.out⟩
          case round =>
            clear X2 HO
            obtain ⟨k, hk, rfl, X, own⟩ := hrel
            by_cases hlt : k < l.instrs.length
            · have hla : k < l.avail.length := by rw [HAv.out]; exact hlt
              have hlz : k < (l.instrs.zip l.avail).length := by rw [List.length_zip]; omega
              have hsz : (pre ++ ((l.instrs.zip l.avail).take k).flatMap encI).length ≤ 120000064 := by
                have h1 := flat_size encI 64 ((l.instrs.zip l.avail).take k) (fun x _ => by unfold encI; rw [encs_len]; exact Nat.le_refl _)
                have h2 := HB.out
                have h3 : ((l.instrs.zip l.avail).take k).length ≤ 1000000 := by rw [List.length_take]; omega
                have h4 : 64 * ((l.instrs.zip l.avail).take k).length ≤ 64 * 1000000 := Nat.mul_le_mul_left _ h3
                rw [List.length_append]
                omega
              have HNX := Lib.hid (flat_next encI hlz)
              obtain ⟨b, off, ha, C1⟩ := rec_at len_ins (by decide) X.at_.instrs hlt
              obtain ⟨ab, aoff, haa, hav⟩ := X.at_.avail k _ (i64s_get l.avail k hla)
              have HAvail := Lib.hid (fun W (h : LedH w W w.heap.size s l vs) => avail_cell h.at_ haa hla)
              rw [show (l.instrs.zip l.avail)[k] = (l.instrs[k], l.avail[k]) from List.getElem_zip] at HNX
              have HAA := Lib.hid haa
              clear haa hav
              generalize l.avail[k] = y at *
              generalize l.instrs[k] = x at *
              obtain ⟨x0, x1, x2, x3, x4, x5, x6⟩ := x
              have d0 := C1 0 _ rfl
              have d1 := C1 1 _ rfl
              have d2 := C1 2 _ rfl
              have d3 := C1 3 _ rfl
              have d4 := C1 4 _ rfl
              have d5 := C1 5 _ rfl
              have d6 := C1 6 _ rfl
              clear C1
              simp only [← Nat.add_assoc, Nat.add_zero] at d0 d1 d2 d3 d4 d5 d6
              rw [ha]
              clear ha
              go_upto_region 17 with fail
              have RA := Lib.hid (RecH.new X 60 #[.int .i64 x0, .int .i64 x1, .int .i64 x2, .int .i64 x3, .int .i64 x4, .bool x5, .int .i64 x6])
              have OA := Lib.hid (own.alloc (.cells #[.int .i64 x0, .int .i64 x1, .int .i64 x2, .int .i64 x3, .int .i64 x4, .bool x5, .int .i64 x6] 60))
              have hz := X.box.lt
              clear X own d0 d1 d2 d3 d4 d5 d6
              have hz2 : w.heap.size + 1 ≤ (wr.alloc (.cells #[.int .i64 x0, .int .i64 x1, .int .i64 x2, .int .i64 x3, .int .i64 x4, .bool x5, .int .i64 x6] 60)).heap.size := by rw [World.size_alloc]; omega
              generalize wr.alloc (.cells #[.int .i64 x0, .int .i64 x1, .int .i64 x2, .int .i64 x3, .int .i64 x4, .bool x5, .int .i64 x6] 60) = w3 at *
              obtain ⟨g, hg⟩ : ∃ g, g = wr.heap.size := ⟨_, rfl⟩
              rw [← hg] at RA ⊢
              clear hg hz
              have HPre : Hid (pre ++ ((l.instrs.zip l.avail).take (k + 1)).flatMap encI = pre ++ ((l.instrs.zip l.avail).take k).flatMap encI ++ encI (⟨x0, x1, x2, x3, x4, x5, x6⟩, y)) := by unfold Hid; rw [HNX.out, List.append_assoc]
              clear HNX
              generalize pre ++ ((l.instrs.zip l.avail).take k).flatMap encI = bs at HPre OA hsz
              have hlk : (k : Int) < l.avail.length := by omega
              refine stage_region 23 (fun W => W.cell? ⟨g, 0, none⟩ = some (.int .i64 x0) ∧ W.cell? ⟨g, 1, none⟩ = some (.int .i64 x1) ∧ W.cell? ⟨g, 2, none⟩ = some (.int .i64 x2) ∧ W.cell? ⟨g, 3, none⟩ = some (.int .i64 x3) ∧ W.cell? ⟨g, 4, none⟩ = some (.int .i64 x4) ∧ W.cell? ⟨g, 5, none⟩ = some (.bool x5) ∧ W.cell? ⟨g, 6, none⟩ = some (.int .i64 x6) ∧ W.cell? ⟨w.heap.size, 7, none⟩ = some (.slice (some ⟨ab, aoff, none⟩) l.avail.length s.c7) ∧ W.cell? ⟨ab, aoff + k, none⟩ = some (.int .i64 y) ∧ RecH w W s l vs g 60 #[.int .i64 x0, .int .i64 x1, .int .i64 x2, .int .i64 x3, .int .i64 x4, .bool x5, .int .i64 x6]) (by kernel_rfl) ?_
              have HS := RA.out.drew
              refine' stage_take (i := 0) _ rfl (by kernel_rfl) (by kernel_rfl) (by kernel_rfl) (by kernel_rfl) (fun _ _ _ h => h) ⟨HS.rec_.cell 0, HS.rec_.cell 1, HS.rec_.cell 2, HS.rec_.cell 3, HS.rec_.cell 4, HS.rec_.cell 5, HS.rec_.cell 6, (HAA.out ▸ HS.led.c7), HAvail.out _ HS.led, HS⟩ _ (fun W hW => _) _
              rotate_left
              focus (go_simp; done)
              focus (obtain ⟨k1, k2, k3, k4, k5, k6, k7, k8, k9, X9⟩ := hW; go_simp; first | done | (with_reducible rfl))
              simp only [Act.put, List.setIfInBounds_toArray, List.set_cons_zero, List.set_cons_succ]
              refine' stage_take (i := 1) _ rfl (by kernel_rfl) (by kernel_rfl) (by kernel_rfl) (by kernel_rfl) (fun _ _ _ h => h) ⟨HS.rec_.cell 0, HS.rec_.cell 1, HS.rec_.cell 2, HS.rec_.cell 3, HS.rec_.cell 4, HS.rec_.cell 5, HS.rec_.cell 6, (HAA.out ▸ HS.led.c7), HAvail.out _ HS.led, HS⟩ _ (fun W hW => _) _
              rotate_left
              focus (go_simp; done)
              focus (obtain ⟨k1, k2, k3, k4, k5, k6, k7, k8, k9, X9⟩ := hW; go_simp; first | done | (with_reducible rfl))
              simp only [Act.put, List.setIfInBounds_toArray, List.set_cons_zero, List.set_cons_succ]
              refine' stage_take (i := 2) _ rfl (by kernel_rfl) (by kernel_rfl) (by kernel_rfl) (by kernel_rfl) (fun _ _ _ h => h) ⟨HS.rec_.cell 0, HS.rec_.cell 1, HS.rec_.cell 2, HS.rec_.cell 3, HS.rec_.cell 4, HS.rec_.cell 5, HS.rec_.cell 6, (HAA.out ▸ HS.led.c7), HAvail.out _ HS.led, HS⟩ _ (fun W hW => _) _
              rotate_left
              focus (go_simp; done)
              focus (obtain ⟨k1, k2, k3, k4, k5, k6, k7, k8, k9, X9⟩ := hW; go_simp; first | done | (with_reducible rfl))
              simp only [Act.put, List.setIfInBounds_toArray, List.set_cons_zero, List.set_cons_succ]
              refine' stage_take (i := 3) _ rfl (by kernel_rfl) (by kernel_rfl) (by kernel_rfl) (by kernel_rfl) (fun _ _ _ h => h) ⟨HS.rec_.cell 0, HS.rec_.cell 1, HS.rec_.cell 2, HS.rec_.cell 3, HS.rec_.cell 4, HS.rec_.cell 5, HS.rec_.cell 6, (HAA.out ▸ HS.led.c7), HAvail.out _ HS.led, HS⟩ _ (fun W hW => _) _
              rotate_left
              focus (go_simp; done)
              focus (obtain ⟨k1, k2, k3, k4, k5, k6, k7, k8, k9, X9⟩ := hW; go_simp; first | done | (with_reducible rfl))
              simp only [Act.put, List.setIfInBounds_toArray, List.set_cons_zero, List.set_cons_succ]
              refine' stage_take (i := 4) _ rfl (by kernel_rfl) (by kernel_rfl) (by kernel_rfl) (by kernel_rfl) (fun _ _ _ h => h) ⟨HS.rec_.cell 0, HS.rec_.cell 1, HS.rec_.cell 2, HS.rec_.cell 3, HS.rec_.cell 4, HS.rec_.cell 5, HS.rec_.cell 6, (HAA.out ▸ HS.led.c7), HAvail.out _ HS.led, HS⟩ _ (fun W hW => _) _
              rotate_left
              focus (go_simp; done)
              focus (obtain ⟨k1, k2, k3, k4, k5, k6, k7, k8, k9, X9⟩ := hW; go_simp; first | done | (with_reducible rfl))
              simp only [Act.put, List.setIfInBounds_toArray, List.set_cons_zero, List.set_cons_succ]
              refine' stage_take (i := 5) _ rfl (by kernel_rfl) (by kernel_rfl) (by kernel_rfl) (by kernel_rfl) (fun _ _ _ h => h) ⟨HS.rec_.cell 0, HS.rec_.cell 1, HS.rec_.cell 2, HS.rec_.cell 3, HS.rec_.cell 4, HS.rec_.cell 5, HS.rec_.cell 6, (HAA.out ▸ HS.led.c7), HAvail.out _ HS.led, HS⟩ _ (fun W hW => _) _
              rotate_left
              focus (go_simp; done)
              focus (obtain ⟨k1, k2, k3, k4, k5, k6, k7, k8, k9, X9⟩ := hW; go_simp; first | done | (with_reducible rfl))
              simp only [Act.put, List.setIfInBounds_toArray, List.set_cons_zero, List.set_cons_succ]
              refine' stage_take (i := 6) _ rfl (by kernel_rfl) (by kernel_rfl) (by kernel_rfl) (by kernel_rfl) (fun _ _ _ h => h) ⟨HS.rec_.cell 0, HS.rec_.cell 1, HS.rec_.cell 2, HS.rec_.cell 3, HS.rec_.cell 4, HS.rec_.cell 5, HS.rec_.cell 6, (HAA.out ▸ HS.led.c7), HAvail.out _ HS.led, HS⟩ _ (fun W hW => _) _
              rotate_left
              focus (go_simp; done)
              focus (obtain ⟨k1, k2, k3, k4, k5, k6, k7, k8, k9, X9⟩ := hW; go_simp; first | done | (with_reducible rfl))
              simp only [Act.put, List.setIfInBounds_toArray, List.set_cons_zero, List.set_cons_succ]
              refine' stage_take (i := 7) _ rfl (by kernel_rfl) (by kernel_rfl) (by kernel_rfl) (by kernel_rfl) (fun _ _ _ h => h) ⟨HS.rec_.cell 0, HS.rec_.cell 1, HS.rec_.cell 2, HS.rec_.cell 3, HS.rec_.cell 4, HS.rec_.cell 5, HS.rec_.cell 6, (HAA.out ▸ HS.led.c7), HAvail.out _ HS.led, HS⟩ _ (fun W hW => _) _
              rotate_left
              focus (go_simp; done)
              focus (obtain ⟨k1, k2, k3, k4, k5, k6, k7, k8, k9, X9⟩ := hW; go_simp; first | done | (with_reducible rfl))
              simp only [Act.put, List.setIfInBounds_toArray, List.set_cons_zero, List.set_cons_succ]
              refine' stage_take (i := 8) _ rfl (by kernel_rfl) (by kernel_rfl) (by kernel_rfl) (by kernel_rfl) (fun _ _ _ h => h) ⟨HS.rec_.cell 0, HS.rec_.cell 1, HS.rec_.cell 2, HS.rec_.cell 3, HS.rec_.cell 4, HS.rec_.cell 5, HS.rec_.cell 6, (HAA.out ▸ HS.led.c7), HAvail.out _ HS.led, HS⟩ _ (fun W hW => _) _
              rotate_left
              focus (go_simp; done)
              focus (obtain ⟨k1, k2, k3, k4, k5, k6, k7, k8, k9, X9⟩ := hW; go_simp; first | done | (with_reducible rfl))
              simp only [Act.put, List.setIfInBounds_toArray, List.set_cons_zero, List.set_cons_succ]
              refine' stage_take (i := 9) _ rfl (by kernel_rfl) (by kernel_rfl) (by kernel_rfl) (by kernel_rfl) (fun _ _ _ h => h) ⟨HS.rec_.cell 0, HS.rec_.cell 1, HS.rec_.cell 2, HS.rec_.cell 3, HS.rec_.cell 4, HS.rec_.cell 5, HS.rec_.cell 6, (HAA.out ▸ HS.led.c7), HAvail.out _ HS.led, HS⟩ _ (fun W hW => _) _
              rotate_left
              focus (go_simp; done)
              focus (obtain ⟨k1, k2, k3, k4, k5, k6, k7, k8, k9, X9⟩ := hW; go_simp; first | done | (with_reducible rfl))
              simp only [Act.put, List.setIfInBounds_toArray, List.set_cons_zero, List.set_cons_succ]
              refine' stage_take (i := 10) _ rfl (by kernel_rfl) (by kernel_rfl) (by kernel_rfl) (by kernel_rfl) (fun _ _ _ h => h) ⟨HS.rec_.cell 0, HS.rec_.cell 1, HS.rec_.cell 2, HS.rec_.cell 3, HS.rec_.cell 4, HS.rec_.cell 5, HS.rec_.cell 6, (HAA.out ▸ HS.led.c7), HAvail.out _ HS.led, HS⟩ _ (fun W hW => _) _
              rotate_left
              focus (go_simp; done)
              focus (obtain ⟨k1, k2, k3, k4, k5, k6, k7, k8, k9, X9⟩ := hW; go_simp; first | done | (with_reducible rfl))
              simp only [Act.put, List.setIfInBounds_toArray, List.set_cons_zero, List.set_cons_succ]
              refine' stage_take (i := 11) _ rfl (by kernel_rfl) (by kernel_rfl) (by kernel_rfl) (by kernel_rfl) (fun _ _ _ h => h) ⟨HS.rec_.cell 0, HS.rec_.cell 1, HS.rec_.cell 2, HS.rec_.cell 3, HS.rec_.cell 4, HS.rec_.cell 5, HS.rec_.cell 6, (HAA.out ▸ HS.led.c7), HAvail.out _ HS.led, HS⟩ _ (fun W hW => _) _
              rotate_left
              focus (go_simp; done)
              focus (obtain ⟨k1, k2, k3, k4, k5, k6, k7, k8, k9, X9⟩ := hW; go_simp; first | done | (with_reducible rfl))
              simp only [Act.put, List.setIfInBounds_toArray, List.set_cons_zero, List.set_cons_succ]
              refine' stage_take (i := 12) _ rfl (by kernel_rfl) (by kernel_rfl) (by kernel_rfl) (by kernel_rfl) (fun _ _ _ h => h) ⟨HS.rec_.cell 0, HS.rec_.cell 1, HS.rec_.cell 2, HS.rec_.cell 3, HS.rec_.cell 4, HS.rec_.cell 5, HS.rec_.cell 6, (HAA.out ▸ HS.led.c7), HAvail.out _ HS.led, HS⟩ _ (fun W hW => _) _
              rotate_left
              focus (go_simp; done)
              focus (obtain ⟨k1, k2, k3, k4, k5, k6, k7, k8, k9, X9⟩ := hW; go_simp; first | done | (with_reducible rfl))
              simp only [Act.put, List.setIfInBounds_toArray, List.set_cons_zero, List.set_cons_succ]
              refine' stage_take (i := 14) _ rfl (by kernel_rfl) (by kernel_rfl) (by kernel_rfl) (by kernel_rfl) (fun _ _ _ h => h) ⟨HS.rec_.cell 0, HS.rec_.cell 1, HS.rec_.cell 2, HS.rec_.cell 3, HS.rec_.cell 4, HS.rec_.cell 5, HS.rec_.cell 6, (HAA.out ▸ HS.led.c7), HAvail.out _ HS.led, HS⟩ _ (fun W hW => _) _
              rotate_left
              focus (go_simp; done)
              focus (obtain ⟨k1, k2, k3, k4, k5, k6, k7, k8, k9, X9⟩ := hW; go_simp; first | done | (with_reducible rfl))
              simp only [Act.put, List.setIfInBounds_toArray, List.set_cons_zero, List.set_cons_succ]
              refine' stage_take (i := 15) _ rfl (by kernel_rfl) (by kernel_rfl) (by kernel_rfl) (by kernel_rfl) (fun _ _ _ h => h) ⟨HS.rec_.cell 0, HS.rec_.cell 1, HS.rec_.cell 2, HS.rec_.cell 3, HS.rec_.cell 4, HS.rec_.cell 5, HS.rec_.cell 6, (HAA.out ▸ HS.led.c7), HAvail.out _ HS.led, HS⟩ _ (fun W hW => _) _
              rotate_left
              focus (go_simp; done)
              focus (obtain ⟨k1, k2, k3, k4, k5, k6, k7, k8, k9, X9⟩ := hW; go_simp; first | done | (with_reducible rfl))
              simp only [Act.put, List.setIfInBounds_toArray, List.set_cons_zero, List.set_cons_succ]
              refine' stage_take (i := 16) _ rfl (by kernel_rfl) (by kernel_rfl) (by kernel_rfl) (by kernel_rfl) (fun _ _ _ h => h) ⟨HS.rec_.cell 0, HS.rec_.cell 1, HS.rec_.cell 2, HS.rec_.cell 3, HS.rec_.cell 4, HS.rec_.cell 5, HS.rec_.cell 6, (HAA.out ▸ HS.led.c7), HAvail.out _ HS.led, HS⟩ _ (fun W hW => _) _
              rotate_left
              focus (go_simp; done)
              focus (obtain ⟨k1, k2, k3, k4, k5, k6, k7, k8, k9, X9⟩ := hW; go_simp; first | done | (with_reducible rfl))
              simp only [Act.put, List.setIfInBounds_toArray, List.set_cons_zero, List.set_cons_succ]
              refine' stage_take (i := 17) _ rfl (by kernel_rfl) (by kernel_rfl) (by kernel_rfl) (by kernel_rfl) (fun _ _ _ h => h) ⟨HS.rec_.cell 0, HS.rec_.cell 1, HS.rec_.cell 2, HS.rec_.cell 3, HS.rec_.cell 4, HS.rec_.cell 5, HS.rec_.cell 6, (HAA.out ▸ HS.led.c7), HAvail.out _ HS.led, HS⟩ _ (fun W hW => _) _
              rotate_left
              focus (go_simp; done)
              focus (obtain ⟨k1, k2, k3, k4, k5, k6, k7, k8, k9, X9⟩ := hW; go_simp; first | done | (with_reducible rfl))
              simp only [Act.put, List.setIfInBounds_toArray, List.set_cons_zero, List.set_cons_succ]
              refine' stage_take (i := 18) _ rfl (by kernel_rfl) (by kernel_rfl) (by kernel_rfl) (by kernel_rfl) (fun _ _ _ h => h) ⟨HS.rec_.cell 0, HS.rec_.cell 1, HS.rec_.cell 2, HS.rec_.cell 3, HS.rec_.cell 4, HS.rec_.cell 5, HS.rec_.cell 6, (HAA.out ▸ HS.led.c7), HAvail.out _ HS.led, HS⟩ _ (fun W hW => _) _
              rotate_left
              focus (go_simp; done)
              focus (obtain ⟨k1, k2, k3, k4, k5, k6, k7, k8, k9, X9⟩ := hW; go_simp; first | done | (with_reducible rfl))
              simp only [Act.put, List.setIfInBounds_toArray, List.set_cons_zero, List.set_cons_succ]
              refine' stage_take (i := 19) _ rfl (by kernel_rfl) (by kernel_rfl) (by kernel_rfl) (by kernel_rfl) (fun _ _ _ h => h) ⟨HS.rec_.cell 0, HS.rec_.cell 1, HS.rec_.cell 2, HS.rec_.cell 3, HS.rec_.cell 4, HS.rec_.cell 5, HS.rec_.cell 6, (HAA.out ▸ HS.led.c7), HAvail.out _ HS.led, HS⟩ _ (fun W hW => _) _
              rotate_left
              focus (go_simp; done)
              focus (obtain ⟨k1, k2, k3, k4, k5, k6, k7, k8, k9, X9⟩ := hW; go_simp; first | done | (with_reducible rfl))
              simp only [Act.put, List.setIfInBounds_toArray, List.set_cons_zero, List.set_cons_succ]
              refine' stage_take (i := 20) _ rfl (by kernel_rfl) (by kernel_rfl) (by kernel_rfl) (by kernel_rfl) (fun _ _ _ h => h) ⟨HS.rec_.cell 0, HS.rec_.cell 1, HS.rec_.cell 2, HS.rec_.cell 3, HS.rec_.cell 4, HS.rec_.cell 5, HS.rec_.cell 6, (HAA.out ▸ HS.led.c7), HAvail.out _ HS.led, HS⟩ _ (fun W hW => _) _
              rotate_left
              focus (go_simp; done)
              focus (obtain ⟨k1, k2, k3, k4, k5, k6, k7, k8, k9, X9⟩ := hW; go_simp; first | done | (with_reducible rfl))
              simp only [Act.put, List.setIfInBounds_toArray, List.set_cons_zero, List.set_cons_succ]
              refine stage_only (i := 13) rfl (by kernel_rfl) ?_ (fun K hK => ?_)
              focus (go_simp; done)
              go_simp
              go_at_call 22
              refine (bit_calls x5 _).mono ?_
              rintro e w4 ⟨rfl, rfl⟩
              go_simp
              replace HS := HS
              refine hK.out _ _ (fun _ => ⟨HS.rec_.cell 0, HS.rec_.cell 1, HS.rec_.cell 2, HS.rec_.cell 3, HS.rec_.cell 4, HS.rec_.cell 5, HS.rec_.cell 6, (HAA.out ▸ HS.led.c7), HAvail.out _ HS.led, HS⟩) ?_
              clear hK K
              try simp only [Act.put, List.setIfInBounds_toArray, List.set_cons_zero, List.set_cons_succ]
              refine stage_only (i := 21) rfl (by kernel_rfl) ?_ (fun K hK => ?_)
              focus (go_simp; done)
              go_simp
              replace HS := HS.keep ((Below.refl _ _).alloc (Nat.le_refl _) (.cells #[.int .i64 x0, .int .i64 x1, .int .i64 x2, .int .i64 x3, .int .i64 x4, .int .i64 (bitF x5), .int .i64 x6, .int .i64 y] 3))
              refine hK.out _ _ (fun _ => ⟨HS.rec_.cell 0, HS.rec_.cell 1, HS.rec_.cell 2, HS.rec_.cell 3, HS.rec_.cell 4, HS.rec_.cell 5, HS.rec_.cell 6, (HAA.out ▸ HS.led.c7), HAvail.out _ HS.led, HS⟩) ?_
              clear hK K
              try simp only [Act.put, List.setIfInBounds_toArray, List.set_cons_zero, List.set_cons_succ]
              refine stage_only (i := 22) rfl (by kernel_rfl) ?_ (fun K hK => ?_)
              focus (go_simp; done)
              go_simp
              go_at_call 20
              refine (num_step (A := w3.drew) OA.out hz2 [x0, x1, x2, x3, x4, bitF x5, x6, y] (by simp only [List.length_cons, List.length_nil]; omega) #[.int .i64 x0, .int .i64 x1, .int .i64 x2, .int .i64 x3, .int .i64 x4, .int .i64 (bitF x5), .int .i64 x6, .int .i64 y] rfl 8 rfl).mono ?_
              rintro e w4 ⟨o4, rfl, own4, app4⟩
              go_simp
              replace HS := recH_app RA.out.drew HAt.out (by decide) (own_drew OA.out) app4
              refine hK.out _ _ (fun _ => ⟨HS.rec_.cell 0, HS.rec_.cell 1, HS.rec_.cell 2, HS.rec_.cell 3, HS.rec_.cell 4, HS.rec_.cell 5, HS.rec_.cell 6, (HAA.out ▸ HS.led.c7), HAvail.out _ HS.led, HS⟩) ?_
              clear hK K
              try simp only [Act.put, List.setIfInBounds_toArray, List.set_cons_zero, List.set_cons_succ]
              refine stage_only (i := 23) rfl (by kernel_rfl) ?_ (fun K hK => ?_)
              focus (go_simp; done)
              go_simp
              refine hK.out _ _ (fun h => absurd h (by decide)) ?_
              clear hK K
              try simp only [Act.put, List.setIfInBounds_toArray, List.set_cons_zero, List.set_cons_succ]
              refine stage_end (by kernel_rfl) ?_
              have RE := Lib.hid HS
              clear HS
              go_wp2_with fail
              go_roundw
              case rel => exact ⟨k + 1, by omega, by go_num, RE.out.led, by rw [HPre.out]; exact own4⟩
              case measure => simp [intOf]; omega
            · obtain rfl : k = l.instrs.length := by omega
              rw [List.take_of_length_le (by rw [List.length_zip]; omega)] at own
              have HB2 : Hid ((pre ++ (l.instrs.zip l.avail).flatMap encI).length ≤ 120000064) := by
                have h1 := flat_size encI 64 (l.instrs.zip l.avail) (fun x _ => by unfold encI; rw [encs_len]; exact Nat.le_refl _)
                have h2 := HB.out
                have h3 : (l.instrs.zip l.avail).length ≤ 1000000 := by rw [List.length_zip]; omega
                have h4 : 64 * (l.instrs.zip l.avail).length ≤ 64 * 1000000 := Nat.mul_le_mul_left _ h3
                unfold Hid
                rw [List.length_append]
                omega
              have HO := Lib.hid own
              have X2 := Lib.hid X
              clear own X HB
              have HB := HB2
              clear HB2
              generalize pre ++ (l.instrs.zip l.avail).flatMap encI = pre2 at HO HB HP0
              obtain ⟨pre, hpre⟩ : ∃ p, p = pre2 := ⟨_, rfl⟩
              subst hpre
              have c4 := X2.out.c4
              have hlt0 := X2.out.box.lt
              clear hlt0
              go_wp2_with fail
              clear c4
              go_loopw [4, 117] (fun o i wr => ∃ k : Nat, k ≤ l.accts.length ∧ i = .int .i64 (k : Int) ∧ LedH w wr w.heap.size s l vs ∧ wr.ownsRow (w.heap.size + 1) 5 1 o (pre ++ (l.accts.take k).flatMap encA).length (u8s (pre ++ (l.accts.take k).flatMap encA))) (fun _ i _ => l.accts.length - (intOf i).toNat)
              case atStart => exact ⟨0, by omega, rfl, X2.out, by simpa using HO.out⟩
              case round =>
                clear X2 HO
                obtain ⟨k, hk, rfl, X, own⟩ := hrel
                by_cases hlt : k < l.accts.length
                · have hsz : (pre ++ (l.accts.take k).flatMap encA).length ≤ 176000064 := by
                    have h1 := flat_size encA 56 (l.accts.take k) (fun a ha => by have h1 := HCash.out a (List.mem_of_mem_take ha); unfold encA; rw [List.length_append, encs_len, encs_len]; simp only [List.length_cons, List.length_nil]; omega)
                    have h2 := HB.out
                    have h3 : (l.accts.take k).length ≤ 1000000 := by rw [List.length_take]; omega
                    have h4 : 56 * (l.accts.take k).length ≤ 56 * 1000000 := Nat.mul_le_mul_left _ h3
                    rw [List.length_append]
                    omega
                  have HNX := Lib.hid (flat_next encA hlt)
                  have hlv : k < vs.length := by rw [HLen.out]; exact hlt
                  obtain ⟨b, off, ha, C1⟩ := rec_at len_acc (by decide) X.at_.accts hlv
                  have hcash := HAt.out.cash _ (List.getElem_mem hlv)
                  have hcl := HCash.out _ (List.getElem_mem hlt)
                  have hke := LedAt.acc X.at_ hlv hlt
                  generalize l.accts[k] = a at *
                  generalize vs[k] = x at *
                  obtain ⟨xv, xa⟩ := x
                  simp only at hke
                  subst hke
                  obtain ⟨x0, x1, x2, x3⟩ := xa
                  obtain ⟨ca, cc, hxv, _, hcat0⟩ := hcash
                  simp only at hxv hcat0 hcl
                  subst hxv
                  have d0 := C1 0 _ rfl
                  have d1 := C1 1 _ rfl
                  have d2 := C1 2 _ rfl
                  have d3 := C1 3 _ rfl
                  clear C1
                  simp only [← Nat.add_assoc, Nat.add_zero] at d0 d1 d2 d3
                  rw [ha]
                  clear ha
                  go_upto_region 22 with fail
                  have RA := Lib.hid (RecH.new X 46 #[.int .i64 x0, .slice ca x1.length cc, .bool x2, .int .i64 x3])
                  have OA := Lib.hid (own.alloc (.cells #[.int .i64 x0, .slice ca x1.length cc, .bool x2, .int .i64 x3] 46))
                  have hlowA := X.low.alloc X.low.size (.cells #[.int .i64 x0, .slice ca x1.length cc, .bool x2, .int .i64 x3] 46)
                  have hcat2 := hcat0.keep hlowA
                  have hz := X.box.lt
                  clear X own d0 d1 d2 d3
                  have hz2 : w.heap.size + 1 ≤ (wr.alloc (.cells #[.int .i64 x0, .slice ca x1.length cc, .bool x2, .int .i64 x3] 46)).heap.size := by rw [World.size_alloc]; omega
                  generalize wr.alloc (.cells #[.int .i64 x0, .slice ca x1.length cc, .bool x2, .int .i64 x3] 46) = w3 at *
                  obtain ⟨g, hg⟩ : ∃ g, g = wr.heap.size := ⟨_, rfl⟩
                  rw [← hg] at RA ⊢
                  clear hg hz
                  have HPre : Hid (pre ++ (l.accts.take (k + 1)).flatMap encA = pre ++ (l.accts.take k).flatMap encA ++ encA ⟨x0, x1, x2, x3⟩) := by unfold Hid; rw [HNX.out, List.append_assoc]
                  clear HNX
                  generalize pre ++ (l.accts.take k).flatMap encA = bs at HPre OA hsz
                  have hsep2 := sep_low (W := w3.drew) hcat0 (own_drew OA.out) hlowA.size
                  refine stage_region 13 (fun W => W.cell? ⟨g, 0, none⟩ = some (.int .i64 x0) ∧ W.cell? ⟨g, 1, none⟩ = some (.slice ca x1.length cc) ∧ W.cell? ⟨g, 2, none⟩ = some (.bool x2) ∧ W.cell? ⟨g, 3, none⟩ = some (.int .i64 x3) ∧ RecH w W s l vs g 46 #[.int .i64 x0, .slice ca x1.length cc, .bool x2, .int .i64 x3]) (by kernel_rfl) ?_
                  have HS := RA.out.drew
                  refine' stage_take (i := 0) _ rfl (by kernel_rfl) (by kernel_rfl) (by kernel_rfl) (by kernel_rfl) (fun _ _ _ h => h) ⟨HS.rec_.cell 0, HS.rec_.cell 1, HS.rec_.cell 2, HS.rec_.cell 3, HS⟩ _ (fun W hW => _) _
                  rotate_left
                  focus (go_simp; done)
                  focus (obtain ⟨k1, k2, k3, k4, X9⟩ := hW; go_simp; first | done | (with_reducible rfl))
                  simp only [Act.put, List.setIfInBounds_toArray, List.set_cons_zero, List.set_cons_succ]
                  refine' stage_take (i := 1) _ rfl (by kernel_rfl) (by kernel_rfl) (by kernel_rfl) (by kernel_rfl) (fun _ _ _ h => h) ⟨HS.rec_.cell 0, HS.rec_.cell 1, HS.rec_.cell 2, HS.rec_.cell 3, HS⟩ _ (fun W hW => _) _
                  rotate_left
                  focus (go_simp; done)
                  focus (obtain ⟨k1, k2, k3, k4, X9⟩ := hW; go_simp; first | done | (with_reducible rfl))
                  simp only [Act.put, List.setIfInBounds_toArray, List.set_cons_zero, List.set_cons_succ]
                  refine' stage_take (i := 2) _ rfl (by kernel_rfl) (by kernel_rfl) (by kernel_rfl) (by kernel_rfl) (fun _ _ _ h => h) ⟨HS.rec_.cell 0, HS.rec_.cell 1, HS.rec_.cell 2, HS.rec_.cell 3, HS⟩ _ (fun W hW => _) _
                  rotate_left
                  focus (go_simp; done)
                  focus (obtain ⟨k1, k2, k3, k4, X9⟩ := hW; go_simp; first | done | (with_reducible rfl))
                  simp only [Act.put, List.setIfInBounds_toArray, List.set_cons_zero, List.set_cons_succ]
                  refine' stage_take (i := 3) _ rfl (by kernel_rfl) (by kernel_rfl) (by kernel_rfl) (by kernel_rfl) (fun _ _ _ h => h) ⟨HS.rec_.cell 0, HS.rec_.cell 1, HS.rec_.cell 2, HS.rec_.cell 3, HS⟩ _ (fun W hW => _) _
                  rotate_left
                  focus (go_simp; done)
                  focus (obtain ⟨k1, k2, k3, k4, X9⟩ := hW; go_simp; first | done | (with_reducible rfl))
                  simp only [Act.put, List.setIfInBounds_toArray, List.set_cons_zero, List.set_cons_succ]
                  refine' stage_take (i := 4) _ rfl (by kernel_rfl) (by kernel_rfl) (by kernel_rfl) (by kernel_rfl) (fun _ _ _ h => h) ⟨HS.rec_.cell 0, HS.rec_.cell 1, HS.rec_.cell 2, HS.rec_.cell 3, HS⟩ _ (fun W hW => _) _
                  rotate_left
                  focus (go_simp; done)
                  focus (obtain ⟨k1, k2, k3, k4, X9⟩ := hW; go_simp; first | done | (with_reducible rfl))
                  simp only [Act.put, List.setIfInBounds_toArray, List.set_cons_zero, List.set_cons_succ]
                  refine' stage_take (i := 6) _ rfl (by kernel_rfl) (by kernel_rfl) (by kernel_rfl) (by kernel_rfl) (fun _ _ _ h => h) ⟨HS.rec_.cell 0, HS.rec_.cell 1, HS.rec_.cell 2, HS.rec_.cell 3, HS⟩ _ (fun W hW => _) _
                  rotate_left
                  focus (go_simp; done)
                  focus (obtain ⟨k1, k2, k3, k4, X9⟩ := hW; go_simp; first | done | (with_reducible rfl))
                  simp only [Act.put, List.setIfInBounds_toArray, List.set_cons_zero, List.set_cons_succ]
                  refine' stage_take (i := 7) _ rfl (by kernel_rfl) (by kernel_rfl) (by kernel_rfl) (by kernel_rfl) (fun _ _ _ h => h) ⟨HS.rec_.cell 0, HS.rec_.cell 1, HS.rec_.cell 2, HS.rec_.cell 3, HS⟩ _ (fun W hW => _) _
                  rotate_left
                  focus (go_simp; done)
                  focus (obtain ⟨k1, k2, k3, k4, X9⟩ := hW; go_simp; first | done | (with_reducible rfl))
                  simp only [Act.put, List.setIfInBounds_toArray, List.set_cons_zero, List.set_cons_succ]
                  refine' stage_take (i := 10) _ rfl (by kernel_rfl) (by kernel_rfl) (by kernel_rfl) (by kernel_rfl) (fun _ _ _ h => h) ⟨HS.rec_.cell 0, HS.rec_.cell 1, HS.rec_.cell 2, HS.rec_.cell 3, HS⟩ _ (fun W hW => _) _
                  rotate_left
                  focus (go_simp; done)
                  focus (obtain ⟨k1, k2, k3, k4, X9⟩ := hW; go_simp; first | done | (with_reducible rfl))
                  simp only [Act.put, List.setIfInBounds_toArray, List.set_cons_zero, List.set_cons_succ]
                  refine' stage_take (i := 11) _ rfl (by kernel_rfl) (by kernel_rfl) (by kernel_rfl) (by kernel_rfl) (fun _ _ _ h => h) ⟨HS.rec_.cell 0, HS.rec_.cell 1, HS.rec_.cell 2, HS.rec_.cell 3, HS⟩ _ (fun W hW => _) _
                  rotate_left
                  focus (go_simp; done)
                  focus (obtain ⟨k1, k2, k3, k4, X9⟩ := hW; go_simp; first | done | (with_reducible rfl))
                  simp only [Act.put, List.setIfInBounds_toArray, List.set_cons_zero, List.set_cons_succ]
                  refine stage_only (i := 5) rfl (by kernel_rfl) ?_ (fun K hK => ?_)
                  focus (go_simp; done)
                  go_simp
                  go_at_call 22
                  refine (bit_calls x2 _).mono ?_
                  rintro e w4 ⟨rfl, rfl⟩
                  go_simp
                  replace HS := HS
                  refine hK.out _ _ (fun _ => ⟨HS.rec_.cell 0, HS.rec_.cell 1, HS.rec_.cell 2, HS.rec_.cell 3, HS⟩) ?_
                  clear hK K
                  try simp only [Act.put, List.setIfInBounds_toArray, List.set_cons_zero, List.set_cons_succ]
                  refine stage_only (i := 8) rfl (by kernel_rfl) ?_ (fun K hK => ?_)
                  focus (go_simp; done)
                  go_simp
                  replace HS := HS.keep ((Below.refl _ _).alloc (Nat.le_refl _) (.cells #[.int .i64 x0, .int .i64 (bitF x2), .int .i64 x3] 3))
                  refine hK.out _ _ (fun _ => ⟨HS.rec_.cell 0, HS.rec_.cell 1, HS.rec_.cell 2, HS.rec_.cell 3, HS⟩) ?_
                  clear hK K
                  try simp only [Act.put, List.setIfInBounds_toArray, List.set_cons_zero, List.set_cons_succ]
                  refine stage_only (i := 9) rfl (by kernel_rfl) ?_ (fun K hK => ?_)
                  focus (go_simp; done)
                  go_simp
                  go_at_call 20
                  refine (num_step (A := w3.drew) OA.out hz2 [x0, bitF x2, x3] (by simp only [List.length_cons, List.length_nil]; omega) #[.int .i64 x0, .int .i64 (bitF x2), .int .i64 x3] rfl 3 rfl).mono ?_
                  rintro e w5 ⟨o5, rfl, own5, app5⟩
                  go_simp
                  replace HS := recH_app RA.out.drew HAt.out (by decide) (own_drew OA.out) app5
                  refine hK.out _ _ (fun _ => ⟨HS.rec_.cell 0, HS.rec_.cell 1, HS.rec_.cell 2, HS.rec_.cell 3, HS⟩) ?_
                  clear hK K
                  try simp only [Act.put, List.setIfInBounds_toArray, List.set_cons_zero, List.set_cons_succ]
                  refine stage_only (i := 12) rfl (by kernel_rfl) ?_ (fun K hK => ?_)
                  focus (go_simp; done)
                  go_simp
                  have hz5 := app5.grown.size
                  have hl5 : (bs ++ encs [x0, bitF x2, x3]).length + 8 * x1.length ≤ 1000000000 := by rw [List.length_append, encs_len]; simp only [List.length_cons, List.length_nil]; omega
                  go_at_call 20
                  refine (numbers_calls (w.heap.size + 1) o5 (bs ++ encs [x0, bitF x2, x3]) ca cc x1 _ own5 (Nat.le_trans hz2 hz5) hl5 (at_app (show At w3.drew ca (i64s x1) from hcat2) app5 hsep2) (app5.apart hsep2)).mono ?_
                  rintro e w6 ⟨o6, rfl, own6, app6⟩
                  go_simp
                  replace HS := recH_app HS HAt.out (by decide) own5 app6
                  refine hK.out _ _ (fun _ => ⟨HS.rec_.cell 0, HS.rec_.cell 1, HS.rec_.cell 2, HS.rec_.cell 3, HS⟩) ?_
                  clear hK K
                  try simp only [Act.put, List.setIfInBounds_toArray, List.set_cons_zero, List.set_cons_succ]
                  refine stage_only (i := 13) rfl (by kernel_rfl) ?_ (fun K hK => ?_)
                  focus (go_simp; done)
                  go_simp
                  refine hK.out _ _ (fun h => absurd h (by decide)) ?_
                  clear hK K
                  try simp only [Act.put, List.setIfInBounds_toArray, List.set_cons_zero, List.set_cons_succ]
                  refine stage_end (by kernel_rfl) ?_
                  have RE := Lib.hid HS
                  clear HS
                  go_wp2_with fail
                  go_roundw
                  case rel => exact ⟨k + 1, by omega, by go_num, RE.out.led, by rw [HPre.out]; unfold encA; rw [← List.append_assoc]; exact own6⟩
                  case measure => simp [intOf]; omega
                · obtain rfl : k = l.accts.length := by omega
                  rw [List.take_length] at own
                  have HB2 : Hid ((pre ++ l.accts.flatMap encA).length ≤ 176000064) := by
                    have h1 := flat_size encA 56 l.accts (fun a ha => by have h1 := HCash.out a ha; unfold encA; rw [List.length_append, encs_len, encs_len]; simp only [List.length_cons, List.length_nil]; omega)
                    have h2 := HB.out
                    have h3 : l.accts.length ≤ 1000000 := by omega
                    have h4 : 56 * l.accts.length ≤ 56 * 1000000 := Nat.mul_le_mul_left _ h3
                    unfold Hid
                    rw [List.length_append]
                    omega
                  have HO := Lib.hid own
                  have X2 := Lib.hid X
                  clear own X HB
                  have HB := HB2
                  clear HB2
                  generalize pre ++ l.accts.flatMap encA = pre2 at HO HB HP0
                  obtain ⟨pre, hpre⟩ : ∃ p, p = pre2 := ⟨_, rfl⟩
                  subst hpre
                  have c5 := X2.out.c5
                  have hlt0 := X2.out.box.lt
                  clear hlt0
                  go_wp2_with fail
                  clear c5
                  go_loopw [4, 138] (fun o i wr => ∃ k : Nat, k ≤ l.poss.length ∧ i = .int .i64 (k : Int) ∧ LedH w wr w.heap.size s l vs ∧ wr.ownsRow (w.heap.size + 1) 5 1 o (pre ++ (l.poss.take k).flatMap encP).length (u8s (pre ++ (l.poss.take k).flatMap encP))) (fun _ i _ => l.poss.length - (intOf i).toNat)
                  case atStart => exact ⟨0, by omega, rfl, X2.out, by simpa using HO.out⟩
                  case round =>
                    clear X2 HO
                    obtain ⟨k, hk, rfl, X, own⟩ := hrel
                    by_cases hlt : k < l.poss.length
                    · have hsz : (pre ++ (l.poss.take k).flatMap encP).length ≤ 200000064 := by
                        have h1 := flat_size encP 24 (l.poss.take k) (fun x _ => by unfold encP; rw [encs_len]; exact Nat.le_refl _)
                        have h2 := HB.out
                        have h3 : (l.poss.take k).length ≤ 1000000 := by rw [List.length_take]; omega
                        have h4 : 24 * (l.poss.take k).length ≤ 24 * 1000000 := Nat.mul_le_mul_left _ h3
                        rw [List.length_append]
                        omega
                      have HNX := Lib.hid (flat_next encP hlt)
                      obtain ⟨b, off, ha, C1⟩ := rec_at len_pos (by decide) X.at_.poss hlt
                      generalize l.poss[k] = x at *
                      obtain ⟨x0, x1, x2⟩ := x
                      have d0 := C1 0 _ rfl
                      have d1 := C1 1 _ rfl
                      have d2 := C1 2 _ rfl
                      clear C1
                      simp only [← Nat.add_assoc, Nat.add_zero] at d0 d1 d2
                      rw [ha]
                      clear ha
                      go_upto_region 27 with fail
                      have RA := Lib.hid (RecH.new X 63 #[.int .i64 x0, .int .i64 x1, .int .i64 x2])
                      have OA := Lib.hid (own.alloc (.cells #[.int .i64 x0, .int .i64 x1, .int .i64 x2] 63))
                      have hz := X.box.lt
                      clear X own d0 d1 d2
                      have hz2 : w.heap.size + 1 ≤ (wr.alloc (.cells #[.int .i64 x0, .int .i64 x1, .int .i64 x2] 63)).heap.size := by rw [World.size_alloc]; omega
                      generalize wr.alloc (.cells #[.int .i64 x0, .int .i64 x1, .int .i64 x2] 63) = w3 at *
                      obtain ⟨g, hg⟩ : ∃ g, g = wr.heap.size := ⟨_, rfl⟩
                      rw [← hg] at RA ⊢
                      clear hg hz
                      have HPre : Hid (pre ++ (l.poss.take (k + 1)).flatMap encP = pre ++ (l.poss.take k).flatMap encP ++ encP ⟨x0, x1, x2⟩) := by unfold Hid; rw [HNX.out, List.append_assoc]
                      clear HNX
                      generalize pre ++ (l.poss.take k).flatMap encP = bs at HPre OA hsz
                      have e0 : w3.cell? ⟨g, 0, none⟩ = some (.int .i64 x0) := RA.out.rec_.cell 0
                      have e1 : w3.cell? ⟨g, 1, none⟩ = some (.int .i64 x1) := RA.out.rec_.cell 1
                      have e2 : w3.cell? ⟨g, 2, none⟩ = some (.int .i64 x2) := RA.out.rec_.cell 2
                      have HS := Lib.hid (num_step OA.out hz2 [x0, x1, x2] (by simp only [List.length_cons, List.length_nil]; omega) #[.int .i64 x0, .int .i64 x1, .int .i64 x2] rfl 3 rfl)
                      go_wp2_with (go_at_call 20; refine HS.out.mono ?_; rintro e w4 ⟨o4, rfl, own4, app4⟩)
                      go_roundw
                      case rel => exact ⟨k + 1, by omega, by go_num, (recH_app RA.out HAt.out (by decide) OA.out app4).led, by rw [HPre.out]; exact own4⟩
                      case measure => simp [intOf]; omega
                    · obtain rfl : k = l.poss.length := by omega
                      rw [List.take_length] at own
                      have HB2 : Hid ((pre ++ l.poss.flatMap encP).length ≤ 200000064) := by
                        have h1 := flat_size encP 24 l.poss (fun x _ => by unfold encP; rw [encs_len]; exact Nat.le_refl _)
                        have h2 := HB.out
                        have h3 : l.poss.length ≤ 1000000 := by omega
                        have h4 : 24 * l.poss.length ≤ 24 * 1000000 := Nat.mul_le_mul_left _ h3
                        unfold Hid
                        rw [List.length_append]
                        omega
                      have HO := Lib.hid own
                      have X2 := Lib.hid X
                      clear own X HB
                      have HB := HB2
                      clear HB2
                      generalize pre ++ l.poss.flatMap encP = pre2 at HO HB HP0
                      obtain ⟨pre, hpre⟩ : ∃ p, p = pre2 := ⟨_, rfl⟩
                      subst hpre
                      have c6 := X2.out.c6
                      have hlt0 := X2.out.box.lt
                      clear hlt0
                      go_wp2_with fail
                      clear c6
                      go_loopw [4, 155] (fun o i wr => ∃ k : Nat, k ≤ l.orders.length ∧ i = .int .i64 (k : Int) ∧ LedH w wr w.heap.size s l vs ∧ wr.ownsRow (w.heap.size + 1) 5 1 o (pre ++ (l.orders.take k).flatMap encO).length (u8s (pre ++ (l.orders.take k).flatMap encO))) (fun _ i _ => l.orders.length - (intOf i).toNat)
                      case atStart => exact ⟨0, by omega, rfl, X2.out, by simpa using HO.out⟩
                      case round =>
                        clear X2 HO
                        obtain ⟨k, hk, rfl, X, own⟩ := hrel
                        by_cases hlt : k < l.orders.length
                        · have hsz : (pre ++ (l.orders.take k).flatMap encO).length ≤ 240000064 := by
                            have h1 := flat_size encO 40 (l.orders.take k) (fun x _ => by unfold encO; rw [encs_len]; exact Nat.le_refl _)
                            have h2 := HB.out
                            have h3 : (l.orders.take k).length ≤ 1000000 := by rw [List.length_take]; omega
                            have h4 : 40 * (l.orders.take k).length ≤ 40 * 1000000 := Nat.mul_le_mul_left _ h3
                            rw [List.length_append]
                            omega
                          have HNX := Lib.hid (flat_next encO hlt)
                          obtain ⟨b, off, ha, C1⟩ := rec_at len_ord (by decide) X.at_.orders hlt
                          generalize l.orders[k] = x at *
                          obtain ⟨x0, x1, x2, x3, x4⟩ := x
                          have d0 := C1 0 _ rfl
                          have d1 := C1 1 _ rfl
                          have d2 := C1 2 _ rfl
                          have d3 := C1 3 _ rfl
                          have d4 := C1 4 _ rfl
                          clear C1
                          simp only [← Nat.add_assoc, Nat.add_zero] at d0 d1 d2 d3 d4
                          rw [ha]
                          clear ha
                          go_upto_region 32 with fail
                          have RA := Lib.hid (RecH.new X 65 #[.int .i64 x0, .int .i64 x1, .int .i64 x2, .int .i64 x3, .int .i64 x4])
                          have OA := Lib.hid (own.alloc (.cells #[.int .i64 x0, .int .i64 x1, .int .i64 x2, .int .i64 x3, .int .i64 x4] 65))
                          have hz := X.box.lt
                          clear X own d0 d1 d2 d3 d4
                          have hz2 : w.heap.size + 1 ≤ (wr.alloc (.cells #[.int .i64 x0, .int .i64 x1, .int .i64 x2, .int .i64 x3, .int .i64 x4] 65)).heap.size := by rw [World.size_alloc]; omega
                          generalize wr.alloc (.cells #[.int .i64 x0, .int .i64 x1, .int .i64 x2, .int .i64 x3, .int .i64 x4] 65) = w3 at *
                          obtain ⟨g, hg⟩ : ∃ g, g = wr.heap.size := ⟨_, rfl⟩
                          rw [← hg] at RA ⊢
                          clear hg hz
                          have HPre : Hid (pre ++ (l.orders.take (k + 1)).flatMap encO = pre ++ (l.orders.take k).flatMap encO ++ encO ⟨x0, x1, x2, x3, x4⟩) := by unfold Hid; rw [HNX.out, List.append_assoc]
                          clear HNX
                          generalize pre ++ (l.orders.take k).flatMap encO = bs at HPre OA hsz
                          have e0 : w3.cell? ⟨g, 0, none⟩ = some (.int .i64 x0) := RA.out.rec_.cell 0
                          have e1 : w3.cell? ⟨g, 1, none⟩ = some (.int .i64 x1) := RA.out.rec_.cell 1
                          have e2 : w3.cell? ⟨g, 2, none⟩ = some (.int .i64 x2) := RA.out.rec_.cell 2
                          have e3 : w3.cell? ⟨g, 3, none⟩ = some (.int .i64 x3) := RA.out.rec_.cell 3
                          have e4 : w3.cell? ⟨g, 4, none⟩ = some (.int .i64 x4) := RA.out.rec_.cell 4
                          have HS := Lib.hid (num_step OA.out hz2 [x0, x1, x2, x3, x4] (by simp only [List.length_cons, List.length_nil]; omega) #[.int .i64 x0, .int .i64 x1, .int .i64 x2, .int .i64 x3, .int .i64 x4] rfl 5 rfl)
                          go_wp2_with (go_at_call 20; refine HS.out.mono ?_; rintro e w4 ⟨o4, rfl, own4, app4⟩)
                          go_roundw
                          case rel => exact ⟨k + 1, by omega, by go_num, (recH_app RA.out HAt.out (by decide) OA.out app4).led, by rw [HPre.out]; exact own4⟩
                          case measure => simp [intOf]; omega
                        · obtain rfl : k = l.orders.length := by omega
                          rw [List.take_length] at own
                          have HB2 : Hid ((pre ++ l.orders.flatMap encO).length ≤ 240000064) := by
                            have h1 := flat_size encO 40 l.orders (fun x _ => by unfold encO; rw [encs_len]; exact Nat.le_refl _)
                            have h2 := HB.out
                            have h3 : l.orders.length ≤ 1000000 := by omega
                            have h4 : 40 * l.orders.length ≤ 40 * 1000000 := Nat.mul_le_mul_left _ h3
                            unfold Hid
                            rw [List.length_append]
                            omega
                          have HO := Lib.hid own
                          have X2 := Lib.hid X
                          clear own X HB
                          have HB := HB2
                          clear HB2
                          generalize pre ++ l.orders.flatMap encO = pre2 at HO HB HP0
                          obtain ⟨pre, hpre⟩ : ∃ p, p = pre2 := ⟨_, rfl⟩
                          subst hpre
                          have c8 := X2.out.c8
                          have hlt0 := X2.out.box.lt
                          clear hlt0
                          go_wp2_with fail
                          clear c8
                          go_loopw [4, 176] (fun o i wr => ∃ k : Nat, k ≤ l.locs.length ∧ i = .int .i64 (k : Int) ∧ LedH w wr w.heap.size s l vs ∧ wr.ownsRow (w.heap.size + 1) 5 1 o (pre ++ (l.locs.take k).flatMap encP).length (u8s (pre ++ (l.locs.take k).flatMap encP))) (fun _ i _ => l.locs.length - (intOf i).toNat)
                          case atStart => exact ⟨0, by omega, rfl, X2.out, by simpa using HO.out⟩
                          case round =>
                            clear X2 HO
                            obtain ⟨k, hk, rfl, X, own⟩ := hrel
                            by_cases hlt : k < l.locs.length
                            · have hsz : (pre ++ (l.locs.take k).flatMap encP).length ≤ 264000064 := by
                                have h1 := flat_size encP 24 (l.locs.take k) (fun x _ => by unfold encP; rw [encs_len]; exact Nat.le_refl _)
                                have h2 := HB.out
                                have h3 : (l.locs.take k).length ≤ 1000000 := by rw [List.length_take]; omega
                                have h4 : 24 * (l.locs.take k).length ≤ 24 * 1000000 := Nat.mul_le_mul_left _ h3
                                rw [List.length_append]
                                omega
                              have HNX := Lib.hid (flat_next encP hlt)
                              obtain ⟨b, off, ha, C1⟩ := rec_at len_pos (by decide) X.at_.locs hlt
                              generalize l.locs[k] = x at *
                              obtain ⟨x0, x1, x2⟩ := x
                              have d0 := C1 0 _ rfl
                              have d1 := C1 1 _ rfl
                              have d2 := C1 2 _ rfl
                              clear C1
                              simp only [← Nat.add_assoc, Nat.add_zero] at d0 d1 d2
                              rw [ha]
                              clear ha
                              go_upto_region 37 with fail
                              have RA := Lib.hid (RecH.new X 66 #[.int .i64 x0, .int .i64 x1, .int .i64 x2])
                              have OA := Lib.hid (own.alloc (.cells #[.int .i64 x0, .int .i64 x1, .int .i64 x2] 66))
                              have hz := X.box.lt
                              clear X own d0 d1 d2
                              have hz2 : w.heap.size + 1 ≤ (wr.alloc (.cells #[.int .i64 x0, .int .i64 x1, .int .i64 x2] 66)).heap.size := by rw [World.size_alloc]; omega
                              generalize wr.alloc (.cells #[.int .i64 x0, .int .i64 x1, .int .i64 x2] 66) = w3 at *
                              obtain ⟨g, hg⟩ : ∃ g, g = wr.heap.size := ⟨_, rfl⟩
                              rw [← hg] at RA ⊢
                              clear hg hz
                              have HPre : Hid (pre ++ (l.locs.take (k + 1)).flatMap encP = pre ++ (l.locs.take k).flatMap encP ++ encP ⟨x0, x1, x2⟩) := by unfold Hid; rw [HNX.out, List.append_assoc]
                              clear HNX
                              generalize pre ++ (l.locs.take k).flatMap encP = bs at HPre OA hsz
                              have e0 : w3.cell? ⟨g, 0, none⟩ = some (.int .i64 x0) := RA.out.rec_.cell 0
                              have e1 : w3.cell? ⟨g, 1, none⟩ = some (.int .i64 x1) := RA.out.rec_.cell 1
                              have e2 : w3.cell? ⟨g, 2, none⟩ = some (.int .i64 x2) := RA.out.rec_.cell 2
                              have HS := Lib.hid (num_step OA.out hz2 [x0, x1, x2] (by simp only [List.length_cons, List.length_nil]; omega) #[.int .i64 x0, .int .i64 x1, .int .i64 x2] rfl 3 rfl)
                              go_wp2_with (go_at_call 20; refine HS.out.mono ?_; rintro e w4 ⟨o4, rfl, own4, app4⟩)
                              go_roundw
                              case rel => exact ⟨k + 1, by omega, by go_num, (recH_app RA.out HAt.out (by decide) OA.out app4).led, by rw [HPre.out]; exact own4⟩
                              case measure => simp [intOf]; omega
                            · obtain rfl : k = l.locs.length := by omega
                              rw [List.take_length] at own
                              have HB2 : Hid ((pre ++ l.locs.flatMap encP).length ≤ 264000064) := by
                                have h1 := flat_size encP 24 l.locs (fun x _ => by unfold encP; rw [encs_len]; exact Nat.le_refl _)
                                have h2 := HB.out
                                have h3 : l.locs.length ≤ 1000000 := by omega
                                have h4 : 24 * l.locs.length ≤ 24 * 1000000 := Nat.mul_le_mul_left _ h3
                                unfold Hid
                                rw [List.length_append]
                                omega
                              have HE : Hid (q = (pre ++ l.locs.flatMap encP, 0)) := by unfold Hid; rw [HQ.out, HP0.out]
                              have HO := Lib.hid own
                              clear own HB HB2 HP0 HQ
                              go_wp2_with fail
                              go_ret2
                              rw [HE.out]
                              exact ⟨_, rfl, HO.out, X.low⟩
end Go.Proofs.YtocjfjikkdpfdaaGreatDoor.ImgW
namespace Go.Proofs.YtocjfjikkdpfdaaGreatDoor.ImgW
open Go.RowKit Go.Proofs.YtocjfjikkdpfdaaGreatDoor.Bas Go.Proofs.YtocjfjikkdpfdaaGreatDoor.LedM Go.Proofs.YtocjfjikkdpfdaaGreatDoor.LedW
set_option maxHeartbeats 8000000 in
set_option maxRecDepth 100000 in
theorem rimage_calls (s : Lists) (l : Led) (vs : List (Value × Acc)) (w : World) (hat : LedAt w s l vs) (hf : LedFit l) :
    Calls Tryz.prog 12 #[ledV s l] w fun e w' => ∃ o, e = .returned (.tuple #[o, .int .i64 (imageF l).2]) ∧ w'.ownsRow (w.heap.size + 1) 5 1 o (imageF l).1.length (u8s (imageF l).1) ∧ Below w.heap.size w w' := by
  have X := ledH_new w s l vs hat
  obtain ⟨n1, n2, n3, n4, n5, n6, n7, n8⟩ := hf.len
  have HFit := Lib.hid hf
  have HAt := Lib.hid hat
  have HLen := Lib.hid (LedAt.len hat)
  have G := Lib.hid (fun W (h : LedH w W w.heap.size s l vs) => rgood_calls s l vs W h.at_ hf)
  have HI : Hid (imageF l = if goodF l = true then (encL l, 0) else ([], 43)) := rfl
  unfold ledV at G ⊢
  clear hat hf
  generalize imageF l = q at HI ⊢
  go_enter Tryz.func12, Tryz.ntmps12
  go_upto_region 1 with fail
  generalize w.alloc (.cells #[.int .i64 l.day, .slice s.a1 l.curs.length s.c1, .slice s.a2 l.unders.length s.c2, .slice s.a3 l.instrs.length s.c3, .slice s.a4 l.accts.length s.c4, .slice s.a5 l.poss.length s.c5, .slice s.a6 l.orders.length s.c6, .slice s.a7 l.avail.length s.c7, .slice s.a8 l.locs.length s.c8] 31) = w0 at *
  have XH := Lib.hid X
  clear X
  have c0 := XH.out.c0
  have c1 := XH.out.c1
  have c2 := XH.out.c2
  have c3 := XH.out.c3
  have c4 := XH.out.c4
  have c5 := XH.out.c5
  have c6 := XH.out.c6
  have c7 := XH.out.c7
  have c8 := XH.out.c8
  cases hg : goodF l with
  | false =>
    rw [hg] at G HI
    have HQ : Hid (q = ([], 43)) := HI.out
    clear hg HI
    go_wp2_with (go_at_call 29; refine (G.out _ XH.out).mono ?_; rintro e w1 ⟨rfl, b1⟩)
    go_ret2
    rw [HQ.out]
    exact ⟨_, rfl, World.ownsRow_nil _ _ _ _, XH.out.low.trans (b1.mono XH.out.low.size)⟩
  | true =>
  rw [hg] at G HI
  have HQ : Hid (q = (encL l, 0)) := HI.out
  have HCash := Lib.hid (good_cash hg)
  have HName := Lib.hid (good_name hg)
  have HAv := Lib.hid (good_parts hg).2.2.2
  clear hg HI
  go_upto_region 3 with (go_at_call 29; refine (G.out _ XH.out).mono ?_; rintro e w1 ⟨rfl, b1⟩; have X1 := Lib.hid (XH.out.keep b1))
  clear c0 c1 c2 c3 c4 c5 c6 c7 c8 XH b1 G
  have c0 := X1.out.c0
  have c1 := X1.out.c1
  have c2 := X1.out.c2
  have c3 := X1.out.c3
  have c4 := X1.out.c4
  have c5 := X1.out.c5
  have c6 := X1.out.c6
  have c7 := X1.out.c7
  have c8 := X1.out.c8
  have HST := Lib.hid (put_step (b := w.heap.size + 1) (A := w1) (o := .slice none 0 0) (bs := []) (World.ownsRow_nil _ _ _ _) X1.out.box.lt (headL l) (by simp [headL]) #[.int .i64 l.day, .int .i64 l.curs.length, .int .i64 l.unders.length, .int .i64 l.instrs.length, .int .i64 l.accts.length, .int .i64 l.poss.length, .int .i64 l.orders.length, .int .i64 l.locs.length] rfl 8 rfl)
  go_upto_region 4 with (go_at_call 30; refine HST.out.mono ?_; rintro e w2 ⟨o2, rfl, own2, app2⟩)
  have X2 := Lib.hid (ledH_app X1.out HAt.out (World.ownsRow_nil _ _ _ _ : w1.ownsRow (w.heap.size + 1) 5 1 (.slice none 0 0) 0 []) app2)
  rw [List.nil_append] at own2
  have HO := Lib.hid own2
  have HB : Hid ((encs (headL l)).length ≤ 64) := by unfold Hid; rw [encs_len]; exact Nat.le_refl _
  have HP0 : Hid (encL l = encs (headL l) ++ l.curs.flatMap encC ++ l.unders.flatMap encU ++ (l.instrs.zip l.avail).flatMap encI ++ l.accts.flatMap encA ++ l.poss.flatMap encP ++ l.orders.flatMap encO ++ l.locs.flatMap encP) := rfl
  clear c0 c1 c2 c3 c4 c5 c6 c7 c8 X1 own2 app2 HST
  generalize encs (headL l) = pre at HO HB HP0
  have c1 := X2.out.c1
  have hlt0 := X2.out.box.lt
  clear hlt0
  go_wp2_with fail
  clear c1
  go_loopw [4, 50] (fun o i wr => ∃ k : Nat, k ≤ l.curs.length ∧ i = .int .i64 (k : Int) ∧ LedH w wr w.heap.size s l vs ∧ wr.ownsRow (w.heap.size + 1) 5 1 o (pre ++ (l.curs.take k).flatMap encC).length (u8s (pre ++ (l.curs.take k).flatMap encC))) (fun _ i _ => l.curs.length - (intOf i).toNat)
  case atStart => exact ⟨0, by omega, rfl, X2.out, by simpa using HO.out⟩
  case round =>
    clear X2 HO
    obtain ⟨k, hk, rfl, X, own⟩ := hrel
    by_cases hlt : k < l.curs.length
    · have hsz : (pre ++ (l.curs.take k).flatMap encC).length ≤ 16000064 := by
        have h1 := flat_size encC 16 (l.curs.take k) (fun x _ => by unfold encC; rw [encs_len]; exact Nat.le_refl _)
        have h2 := HB.out
        have h3 : (l.curs.take k).length ≤ 1000000 := by rw [List.length_take]; omega
        have h4 : 16 * (l.curs.take k).length ≤ 16 * 1000000 := Nat.mul_le_mul_left _ h3
        rw [List.length_append]
        omega
      have HNX := Lib.hid (flat_next encC hlt)
      obtain ⟨b, off, ha, C1⟩ := rec_at len_cur (by decide) X.at_.curs hlt
      generalize l.curs[k] = x at *
      obtain ⟨x0, x1⟩ := x
      have d0 := C1 0 _ rfl
      have d1 := C1 1 _ rfl
      clear C1
      simp only [← Nat.add_assoc, Nat.add_zero] at d0 d1
      rw [ha]
      clear ha
      go_upto_region 7 with fail
      have RA := Lib.hid (RecH.new X 55 #[.int .i64 x0, .int .i64 x1])
      have OA := Lib.hid (own.alloc (.cells #[.int .i64 x0, .int .i64 x1] 55))
      have hz := X.box.lt
      clear X own d0 d1
      have hz2 : w.heap.size + 1 ≤ (wr.alloc (.cells #[.int .i64 x0, .int .i64 x1] 55)).heap.size := by rw [World.size_alloc]; omega
      generalize wr.alloc (.cells #[.int .i64 x0, .int .i64 x1] 55) = w3 at *
      obtain ⟨g, hg⟩ : ∃ g, g = wr.heap.size := ⟨_, rfl⟩
      rw [← hg] at RA ⊢
      clear hg hz
      have HPre : Hid (pre ++ (l.curs.take (k + 1)).flatMap encC = pre ++ (l.curs.take k).flatMap encC ++ encC ⟨x0, x1⟩) := by unfold Hid; rw [HNX.out, List.append_assoc]
      clear HNX
      generalize pre ++ (l.curs.take k).flatMap encC = bs at HPre OA hsz
      have e0 : w3.cell? ⟨g, 0, none⟩ = some (.int .i64 x0) := RA.out.rec_.cell 0
      have e1 : w3.cell? ⟨g, 1, none⟩ = some (.int .i64 x1) := RA.out.rec_.cell 1
      have HS := Lib.hid (put_step OA.out hz2 [x0, x1] (by simp only [List.length_cons, List.length_nil]; omega) #[.int .i64 x0, .int .i64 x1] rfl 2 rfl)
      go_wp2_with (go_at_call 30; refine HS.out.mono ?_; rintro e w4 ⟨o4, rfl, own4, app4⟩)
      go_roundw
      case rel => exact ⟨k + 1, by omega, by go_num, (recH_app RA.out HAt.out (by decide) OA.out app4).led, by rw [HPre.out]; exact own4⟩
      case measure => simp [intOf]; omega
    · obtain rfl : k = l.curs.length := by omega
      rw [List.take_length] at own
      have HB2 : Hid ((pre ++ l.curs.flatMap encC).length ≤ 16000064) := by
        have h1 := flat_size encC 16 l.curs (fun x _ => by unfold encC; rw [encs_len]; exact Nat.le_refl _)
        have h2 := HB.out
        have h3 : l.curs.length ≤ 1000000 := by omega
        have h4 : 16 * l.curs.length ≤ 16 * 1000000 := Nat.mul_le_mul_left _ h3
        unfold Hid
        rw [List.length_append]
        omega
      have HO := Lib.hid own
      have X2 := Lib.hid X
      clear own X HB
      have HB := HB2
      clear HB2
      generalize pre ++ l.curs.flatMap encC = pre2 at HO HB HP0
      obtain ⟨pre, hpre⟩ : ∃ p, p = pre2 := ⟨_, rfl⟩
      subst hpre
      have c2 := X2.out.c2
      have hlt0 := X2.out.box.lt
      clear hlt0
      go_wp2_with fail
      clear c2
      go_loopw [4, 65] (fun o i wr => ∃ k : Nat, k ≤ l.unders.length ∧ i = .int .i64 (k : Int) ∧ LedH w wr w.heap.size s l vs ∧ wr.ownsRow (w.heap.size + 1) 5 1 o (pre ++ (l.unders.take k).flatMap encU).length (u8s (pre ++ (l.unders.take k).flatMap encU))) (fun _ i _ => l.unders.length - (intOf i).toNat)
      case atStart => exact ⟨0, by omega, rfl, X2.out, by simpa using HO.out⟩
      case round =>
        clear X2 HO
        obtain ⟨k, hk, rfl, X, own⟩ := hrel
        by_cases hlt : k < l.unders.length
        · have hsz : (pre ++ (l.unders.take k).flatMap encU).length ≤ 56000064 := by
            have h1 := flat_size encU 40 (l.unders.take k) (fun u hu => by have h1 := HName.out u (List.mem_of_mem_take hu); unfold encU encT; rw [List.length_append, List.length_append, encN_len, encs_len]; simp only [List.length_cons, List.length_nil]; omega)
            have h2 := HB.out
            have h3 : (l.unders.take k).length ≤ 1000000 := by rw [List.length_take]; omega
            have h4 : 40 * (l.unders.take k).length ≤ 40 * 1000000 := Nat.mul_le_mul_left _ h3
            rw [List.length_append]
            omega
          have HNX := Lib.hid (flat_next encU hlt)
          obtain ⟨b, off, ha, C1⟩ := rec_at len_und (by decide) X.at_.unders hlt
          have hnl := HName.out _ (List.getElem_mem hlt)
          generalize l.unders[k] = x at *
          obtain ⟨x0, x1, x2, x3⟩ := x
          simp only at hnl
          have d0 := C1 0 _ rfl
          have d1 := C1 1 _ rfl
          have d2 := C1 2 _ rfl
          have d3 := C1 3 _ rfl
          clear C1
          simp only [← Nat.add_assoc, Nat.add_zero] at d0 d1 d2 d3
          rw [ha]
          clear ha
          go_upto_region 12 with fail
          have RA := Lib.hid (RecH.new X 57 #[.string ⟨x0.toArray⟩, .int .i64 x1, .int .i64 x2, .int .i64 x3])
          have OA := Lib.hid (own.alloc (.cells #[.string ⟨x0.toArray⟩, .int .i64 x1, .int .i64 x2, .int .i64 x3] 57))
          have hz := X.box.lt
          clear X own d0 d1 d2 d3
          have hz2 : w.heap.size + 1 ≤ (wr.alloc (.cells #[.string ⟨x0.toArray⟩, .int .i64 x1, .int .i64 x2, .int .i64 x3] 57)).heap.size := by rw [World.size_alloc]; omega
          generalize wr.alloc (.cells #[.string ⟨x0.toArray⟩, .int .i64 x1, .int .i64 x2, .int .i64 x3] 57) = w3 at *
          obtain ⟨g, hg⟩ : ∃ g, g = wr.heap.size := ⟨_, rfl⟩
          rw [← hg] at RA ⊢
          clear hg hz
          have HPre : Hid (pre ++ (l.unders.take (k + 1)).flatMap encU = pre ++ (l.unders.take k).flatMap encU ++ encU ⟨x0, x1, x2, x3⟩) := by unfold Hid; rw [HNX.out, List.append_assoc]
          clear HNX
          generalize pre ++ (l.unders.take k).flatMap encU = bs at HPre OA hsz
          have e0 : w3.cell? ⟨g, 0, none⟩ = some (.string ⟨x0.toArray⟩) := RA.out.rec_.cell 0
          have e1 : w3.cell? ⟨g, 1, none⟩ = some (.int .i64 x1) := RA.out.rec_.cell 1
          have e2 : w3.cell? ⟨g, 2, none⟩ = some (.int .i64 x2) := RA.out.rec_.cell 2
          have e3 : w3.cell? ⟨g, 3, none⟩ = some (.int .i64 x3) := RA.out.rec_.cell 3
          have HS1 := Lib.hid (put_step OA.out hz2 [(x0.length : Int)] (by simp only [List.length_cons, List.length_nil]; omega) #[.int .i64 (x0.length : Int)] rfl 1 rfl)
          have hst := str_size x0
          go_upto_region 13 with (go_at_call 30; refine HS1.out.mono ?_; rintro e w4 ⟨o4, rfl, own4, app4⟩)
          have R4 := Lib.hid (recH_app RA.out HAt.out (by decide) OA.out app4)
          have hz4 := app4.grown.size
          have hl4 : (bs ++ encs [(x0.length : Int)]).length = bs.length + 8 := by rw [List.length_append, encs_len]; rfl
          clear e0 e1 e2 e3 HS1 app4
          have e0 : w4.cell? ⟨g, 0, none⟩ = some (.string ⟨x0.toArray⟩) := R4.out.rec_.cell 0
          have HO4 := Lib.hid own4
          have HZ4 := Lib.hid hz4
          clear own4 hz4
          go_upto_region 14 with (at_builtin; refine wpList_append_str_at rfl (.tmp 75) (.tmp 77) elem8 Tryz.underlying9 rfl (w.heap.size + 1) o4 _ _ rfl HO4.out ⟨x0.toArray⟩ rfl (by omega) (by omega) (by have := HZ4.out; omega) ?_; intro o5 w5 own5 g5 ob5)
          have app5 : App w4 w5 o4 o5 := ⟨g5, ob5.elim (fun e => .inl e) (fun e => .inr ⟨_, e, Nat.le_refl _⟩)⟩
          have R5 := Lib.hid (recH_app R4.out HAt.out (by decide) HO4.out app5)
          have hz5 := app5.grown.size
          have HZ5 : w.heap.size + 1 ≤ w5.heap.size := by have := HZ4.out; omega
          have hl5 : (bs ++ encT x0).length = (bs ++ encs [(x0.length : Int)]).length + (⟨x0.toArray⟩ : ByteArray).size := by unfold encT encs; simp [hst, encN_len]; omega
          have hc5 : u8s (bs ++ encT x0) = u8s (bs ++ encs [(x0.length : Int)]) ++ Go.Lib.strCells ⟨x0.toArray⟩ := by rw [str_cells, ← u8s_append]; unfold encT encs; simp
          rw [← hl5, ← hc5] at own5
          have hl6 : (bs ++ encT x0).length + 8 * 3 ≤ 1000000000 := by rw [hl5, hl4, hst]; omega
          have HS5 := Lib.hid (put_step own5 HZ5 [x1, x2, x3] hl6 #[.int .i64 x1, .int .i64 x2, .int .i64 x3] rfl 3 rfl)
          have HO5 := Lib.hid own5
          clear e0 HO4 R4 own5 g5 ob5 app5 hl5 hc5 hl4 hst hl6
          have e1 : w5.cell? ⟨g, 1, none⟩ = some (.int .i64 x1) := R5.out.rec_.cell 1
          have e2 : w5.cell? ⟨g, 2, none⟩ = some (.int .i64 x2) := R5.out.rec_.cell 2
          have e3 : w5.cell? ⟨g, 3, none⟩ = some (.int .i64 x3) := R5.out.rec_.cell 3
          go_wp2_with (go_at_call 30; refine HS5.out.mono ?_; rintro e w6 ⟨o6, rfl, own6, app6⟩)
          go_roundw
          case rel => exact ⟨k + 1, by omega, by go_num, (recH_app R5.out HAt.out (by decide) HO5.out app6).led, by rw [HPre.out]; unfold encU; rw [← List.append_assoc]; exact own6⟩
          case measure => simp [intOf]; omega
        · obtain rfl : k = l.unders.length := by omega
          rw [List.take_length] at own
          have HB2 : Hid ((pre ++ l.unders.flatMap encU).length ≤ 56000064) := by
            have h1 := flat_size encU 40 l.unders (fun u hu => by have h1 := HName.out u hu; unfold encU encT; rw [List.length_append, List.length_append, encN_len, encs_len]; simp only [List.length_cons, List.length_nil]; omega)
            have h2 := HB.out
            have h3 : l.unders.length ≤ 1000000 := by omega
            have h4 : 40 * l.unders.length ≤ 40 * 1000000 := Nat.mul_le_mul_left _ h3
            unfold Hid
            rw [List.length_append]
            omega
          have HO := Lib.hid own
          have X2 := Lib.hid X
          clear own X HB
          have HB := HB2
          clear HB2
          generalize pre ++ l.unders.flatMap encU = pre2 at HO HB HP0
          obtain ⟨pre, hpre⟩ : ∃ p, p = pre2 := ⟨_, rfl⟩
          subst hpre
          have c3 := X2.out.c3
          have hlt0 := X2.out.box.lt
          clear hlt0
          go_wp2_with fail
          clear c3
          go_loopw [4, 92] (fun o i wr => ∃ k : Nat, k ≤ l.instrs.length ∧ i = .int .i64 (k : Int) ∧ LedH w wr w.heap.size s l vs ∧ wr.ownsRow (w.heap.size + 1) 5 1 o (pre ++ ((l.instrs.zip l.avail).take k).flatMap encI).length (u8s (pre ++ ((l.instrs.zip l.avail).take k).flatMap encI))) (fun _ i _ => l.instrs.length - (intOf i).toNat)
          case atStart => exact ⟨0, by omega, rfl, X2.out, by simpa using HO.out⟩
          case round =>
            clear X2 HO
            obtain ⟨k, hk, rfl, X, own⟩ := hrel
            by_cases hlt : k < l.instrs.length
            · have hla : k < l.avail.length := by rw [HAv.out]; exact hlt
              have hlz : k < (l.instrs.zip l.avail).length := by rw [List.length_zip]; omega
              have hsz : (pre ++ ((l.instrs.zip l.avail).take k).flatMap encI).length ≤ 120000064 := by
                have h1 := flat_size encI 64 ((l.instrs.zip l.avail).take k) (fun x _ => by unfold encI; rw [encs_len]; exact Nat.le_refl _)
                have h2 := HB.out
                have h3 : ((l.instrs.zip l.avail).take k).length ≤ 1000000 := by rw [List.length_take]; omega
                have h4 : 64 * ((l.instrs.zip l.avail).take k).length ≤ 64 * 1000000 := Nat.mul_le_mul_left _ h3
                rw [List.length_append]
                omega
              have HNX := Lib.hid (flat_next encI hlz)
              obtain ⟨b, off, ha, C1⟩ := rec_at len_ins (by decide) X.at_.instrs hlt
              obtain ⟨ab, aoff, haa, hav⟩ := X.at_.avail k _ (i64s_get l.avail k hla)
              have HAvail := Lib.hid (fun W (h : LedH w W w.heap.size s l vs) => avail_cell h.at_ haa hla)
              rw [show (l.instrs.zip l.avail)[k] = (l.instrs[k], l.avail[k]) from List.getElem_zip] at HNX
              have HAA := Lib.hid haa
              clear haa hav
              generalize l.avail[k] = y at *
              generalize l.instrs[k] = x at *
              obtain ⟨x0, x1, x2, x3, x4, x5, x6⟩ := x
              have d0 := C1 0 _ rfl
              have d1 := C1 1 _ rfl
              have d2 := C1 2 _ rfl
              have d3 := C1 3 _ rfl
              have d4 := C1 4 _ rfl
              have d5 := C1 5 _ rfl
              have d6 := C1 6 _ rfl
              clear C1
              simp only [← Nat.add_assoc, Nat.add_zero] at d0 d1 d2 d3 d4 d5 d6
              rw [ha]
              clear ha
              go_upto_region 19 with fail
              have RA := Lib.hid (RecH.new X 60 #[.int .i64 x0, .int .i64 x1, .int .i64 x2, .int .i64 x3, .int .i64 x4, .bool x5, .int .i64 x6])
              have OA := Lib.hid (own.alloc (.cells #[.int .i64 x0, .int .i64 x1, .int .i64 x2, .int .i64 x3, .int .i64 x4, .bool x5, .int .i64 x6] 60))
              have hz := X.box.lt
              clear X own d0 d1 d2 d3 d4 d5 d6
              have hz2 : w.heap.size + 1 ≤ (wr.alloc (.cells #[.int .i64 x0, .int .i64 x1, .int .i64 x2, .int .i64 x3, .int .i64 x4, .bool x5, .int .i64 x6] 60)).heap.size := by rw [World.size_alloc]; omega
              generalize wr.alloc (.cells #[.int .i64 x0, .int .i64 x1, .int .i64 x2, .int .i64 x3, .int .i64 x4, .bool x5, .int .i64 x6] 60) = w3 at *
              obtain ⟨g, hg⟩ : ∃ g, g = wr.heap.size := ⟨_, rfl⟩
              rw [← hg] at RA ⊢
              clear hg hz
              have HPre : Hid (pre ++ ((l.instrs.zip l.avail).take (k + 1)).flatMap encI = pre ++ ((l.instrs.zip l.avail).take k).flatMap encI ++ encI (⟨x0, x1, x2, x3, x4, x5, x6⟩, y)) := by unfold Hid; rw [HNX.out, List.append_assoc]
              clear HNX
              generalize pre ++ ((l.instrs.zip l.avail).take k).flatMap encI = bs at HPre OA hsz
              have hlk : (k : Int) < l.avail.length := by omega
              refine stage_region 23 (fun W => W.cell? ⟨g, 0, none⟩ = some (.int .i64 x0) ∧ W.cell? ⟨g, 1, none⟩ = some (.int .i64 x1) ∧ W.cell? ⟨g, 2, none⟩ = some (.int .i64 x2) ∧ W.cell? ⟨g, 3, none⟩ = some (.int .i64 x3) ∧ W.cell? ⟨g, 4, none⟩ = some (.int .i64 x4) ∧ W.cell? ⟨g, 5, none⟩ = some (.bool x5) ∧ W.cell? ⟨g, 6, none⟩ = some (.int .i64 x6) ∧ W.cell? ⟨w.heap.size, 7, none⟩ = some (.slice (some ⟨ab, aoff, none⟩) l.avail.length s.c7) ∧ W.cell? ⟨ab, aoff + k, none⟩ = some (.int .i64 y) ∧ RecH w W s l vs g 60 #[.int .i64 x0, .int .i64 x1, .int .i64 x2, .int .i64 x3, .int .i64 x4, .bool x5, .int .i64 x6]) (by kernel_rfl) ?_
              have HS := RA.out.drew
              refine' stage_take (i := 0) _ rfl (by kernel_rfl) (by kernel_rfl) (by kernel_rfl) (by kernel_rfl) (fun _ _ _ h => h) ⟨HS.rec_.cell 0, HS.rec_.cell 1, HS.rec_.cell 2, HS.rec_.cell 3, HS.rec_.cell 4, HS.rec_.cell 5, HS.rec_.cell 6, (HAA.out ▸ HS.led.c7), HAvail.out _ HS.led, HS⟩ _ (fun W hW => _) _
              rotate_left
              focus (go_simp; done)
              focus (obtain ⟨k1, k2, k3, k4, k5, k6, k7, k8, k9, X9⟩ := hW; go_simp; first | done | (with_reducible rfl))
              simp only [Act.put, List.setIfInBounds_toArray, List.set_cons_zero, List.set_cons_succ]
              refine' stage_take (i := 1) _ rfl (by kernel_rfl) (by kernel_rfl) (by kernel_rfl) (by kernel_rfl) (fun _ _ _ h => h) ⟨HS.rec_.cell 0, HS.rec_.cell 1, HS.rec_.cell 2, HS.rec_.cell 3, HS.rec_.cell 4, HS.rec_.cell 5, HS.rec_.cell 6, (HAA.out ▸ HS.led.c7), HAvail.out _ HS.led, HS⟩ _ (fun W hW => _) _
              rotate_left
              focus (go_simp; done)
              focus (obtain ⟨k1, k2, k3, k4, k5, k6, k7, k8, k9, X9⟩ := hW; go_simp; first | done | (with_reducible rfl))
              simp only [Act.put, List.setIfInBounds_toArray, List.set_cons_zero, List.set_cons_succ]
              refine' stage_take (i := 2) _ rfl (by kernel_rfl) (by kernel_rfl) (by kernel_rfl) (by kernel_rfl) (fun _ _ _ h => h) ⟨HS.rec_.cell 0, HS.rec_.cell 1, HS.rec_.cell 2, HS.rec_.cell 3, HS.rec_.cell 4, HS.rec_.cell 5, HS.rec_.cell 6, (HAA.out ▸ HS.led.c7), HAvail.out _ HS.led, HS⟩ _ (fun W hW => _) _
              rotate_left
              focus (go_simp; done)
              focus (obtain ⟨k1, k2, k3, k4, k5, k6, k7, k8, k9, X9⟩ := hW; go_simp; first | done | (with_reducible rfl))
              simp only [Act.put, List.setIfInBounds_toArray, List.set_cons_zero, List.set_cons_succ]
              refine' stage_take (i := 3) _ rfl (by kernel_rfl) (by kernel_rfl) (by kernel_rfl) (by kernel_rfl) (fun _ _ _ h => h) ⟨HS.rec_.cell 0, HS.rec_.cell 1, HS.rec_.cell 2, HS.rec_.cell 3, HS.rec_.cell 4, HS.rec_.cell 5, HS.rec_.cell 6, (HAA.out ▸ HS.led.c7), HAvail.out _ HS.led, HS⟩ _ (fun W hW => _) _
              rotate_left
              focus (go_simp; done)
              focus (obtain ⟨k1, k2, k3, k4, k5, k6, k7, k8, k9, X9⟩ := hW; go_simp; first | done | (with_reducible rfl))
              simp only [Act.put, List.setIfInBounds_toArray, List.set_cons_zero, List.set_cons_succ]
              refine' stage_take (i := 4) _ rfl (by kernel_rfl) (by kernel_rfl) (by kernel_rfl) (by kernel_rfl) (fun _ _ _ h => h) ⟨HS.rec_.cell 0, HS.rec_.cell 1, HS.rec_.cell 2, HS.rec_.cell 3, HS.rec_.cell 4, HS.rec_.cell 5, HS.rec_.cell 6, (HAA.out ▸ HS.led.c7), HAvail.out _ HS.led, HS⟩ _ (fun W hW => _) _
              rotate_left
              focus (go_simp; done)
              focus (obtain ⟨k1, k2, k3, k4, k5, k6, k7, k8, k9, X9⟩ := hW; go_simp; first | done | (with_reducible rfl))
              simp only [Act.put, List.setIfInBounds_toArray, List.set_cons_zero, List.set_cons_succ]
              refine' stage_take (i := 5) _ rfl (by kernel_rfl) (by kernel_rfl) (by kernel_rfl) (by kernel_rfl) (fun _ _ _ h => h) ⟨HS.rec_.cell 0, HS.rec_.cell 1, HS.rec_.cell 2, HS.rec_.cell 3, HS.rec_.cell 4, HS.rec_.cell 5, HS.rec_.cell 6, (HAA.out ▸ HS.led.c7), HAvail.out _ HS.led, HS⟩ _ (fun W hW => _) _
              rotate_left
              focus (go_simp; done)
              focus (obtain ⟨k1, k2, k3, k4, k5, k6, k7, k8, k9, X9⟩ := hW; go_simp; first | done | (with_reducible rfl))
              simp only [Act.put, List.setIfInBounds_toArray, List.set_cons_zero, List.set_cons_succ]
              refine' stage_take (i := 6) _ rfl (by kernel_rfl) (by kernel_rfl) (by kernel_rfl) (by kernel_rfl) (fun _ _ _ h => h) ⟨HS.rec_.cell 0, HS.rec_.cell 1, HS.rec_.cell 2, HS.rec_.cell 3, HS.rec_.cell 4, HS.rec_.cell 5, HS.rec_.cell 6, (HAA.out ▸ HS.led.c7), HAvail.out _ HS.led, HS⟩ _ (fun W hW => _) _
              rotate_left
              focus (go_simp; done)
              focus (obtain ⟨k1, k2, k3, k4, k5, k6, k7, k8, k9, X9⟩ := hW; go_simp; first | done | (with_reducible rfl))
              simp only [Act.put, List.setIfInBounds_toArray, List.set_cons_zero, List.set_cons_succ]
              refine' stage_take (i := 7) _ rfl (by kernel_rfl) (by kernel_rfl) (by kernel_rfl) (by kernel_rfl) (fun _ _ _ h => h) ⟨HS.rec_.cell 0, HS.rec_.cell 1, HS.rec_.cell 2, HS.rec_.cell 3, HS.rec_.cell 4, HS.rec_.cell 5, HS.rec_.cell 6, (HAA.out ▸ HS.led.c7), HAvail.out _ HS.led, HS⟩ _ (fun W hW => _) _
              rotate_left
              focus (go_simp; done)
              focus (obtain ⟨k1, k2, k3, k4, k5, k6, k7, k8, k9, X9⟩ := hW; go_simp; first | done | (with_reducible rfl))
              simp only [Act.put, List.setIfInBounds_toArray, List.set_cons_zero, List.set_cons_succ]
              refine' stage_take (i := 8) _ rfl (by kernel_rfl) (by kernel_rfl) (by kernel_rfl) (by kernel_rfl) (fun _ _ _ h => h) ⟨HS.rec_.cell 0, HS.rec_.cell 1, HS.rec_.cell 2, HS.rec_.cell 3, HS.rec_.cell 4, HS.rec_.cell 5, HS.rec_.cell 6, (HAA.out ▸ HS.led.c7), HAvail.out _ HS.led, HS⟩ _ (fun W hW => _) _
              rotate_left
              focus (go_simp; done)
              focus (obtain ⟨k1, k2, k3, k4, k5, k6, k7, k8, k9, X9⟩ := hW; go_simp; first | done | (with_reducible rfl))
              simp only [Act.put, List.setIfInBounds_toArray, List.set_cons_zero, List.set_cons_succ]
              refine' stage_take (i := 9) _ rfl (by kernel_rfl) (by kernel_rfl) (by kernel_rfl) (by kernel_rfl) (fun _ _ _ h => h) ⟨HS.rec_.cell 0, HS.rec_.cell 1, HS.rec_.cell 2, HS.rec_.cell 3, HS.rec_.cell 4, HS.rec_.cell 5, HS.rec_.cell 6, (HAA.out ▸ HS.led.c7), HAvail.out _ HS.led, HS⟩ _ (fun W hW => _) _
              rotate_left
              focus (go_simp; done)
              focus (obtain ⟨k1, k2, k3, k4, k5, k6, k7, k8, k9, X9⟩ := hW; go_simp; first | done | (with_reducible rfl))
              simp only [Act.put, List.setIfInBounds_toArray, List.set_cons_zero, List.set_cons_succ]
              refine' stage_take (i := 10) _ rfl (by kernel_rfl) (by kernel_rfl) (by kernel_rfl) (by kernel_rfl) (fun _ _ _ h => h) ⟨HS.rec_.cell 0, HS.rec_.cell 1, HS.rec_.cell 2, HS.rec_.cell 3, HS.rec_.cell 4, HS.rec_.cell 5, HS.rec_.cell 6, (HAA.out ▸ HS.led.c7), HAvail.out _ HS.led, HS⟩ _ (fun W hW => _) _
              rotate_left
              focus (go_simp; done)
              focus (obtain ⟨k1, k2, k3, k4, k5, k6, k7, k8, k9, X9⟩ := hW; go_simp; first | done | (with_reducible rfl))
              simp only [Act.put, List.setIfInBounds_toArray, List.set_cons_zero, List.set_cons_succ]
              refine' stage_take (i := 11) _ rfl (by kernel_rfl) (by kernel_rfl) (by kernel_rfl) (by kernel_rfl) (fun _ _ _ h => h) ⟨HS.rec_.cell 0, HS.rec_.cell 1, HS.rec_.cell 2, HS.rec_.cell 3, HS.rec_.cell 4, HS.rec_.cell 5, HS.rec_.cell 6, (HAA.out ▸ HS.led.c7), HAvail.out _ HS.led, HS⟩ _ (fun W hW => _) _
              rotate_left
              focus (go_simp; done)
              focus (obtain ⟨k1, k2, k3, k4, k5, k6, k7, k8, k9, X9⟩ := hW; go_simp; first | done | (with_reducible rfl))
              simp only [Act.put, List.setIfInBounds_toArray, List.set_cons_zero, List.set_cons_succ]
              refine' stage_take (i := 12) _ rfl (by kernel_rfl) (by kernel_rfl) (by kernel_rfl) (by kernel_rfl) (fun _ _ _ h => h) ⟨HS.rec_.cell 0, HS.rec_.cell 1, HS.rec_.cell 2, HS.rec_.cell 3, HS.rec_.cell 4, HS.rec_.cell 5, HS.rec_.cell 6, (HAA.out ▸ HS.led.c7), HAvail.out _ HS.led, HS⟩ _ (fun W hW => _) _
              rotate_left
              focus (go_simp; done)
              focus (obtain ⟨k1, k2, k3, k4, k5, k6, k7, k8, k9, X9⟩ := hW; go_simp; first | done | (with_reducible rfl))
              simp only [Act.put, List.setIfInBounds_toArray, List.set_cons_zero, List.set_cons_succ]
              refine' stage_take (i := 14) _ rfl (by kernel_rfl) (by kernel_rfl) (by kernel_rfl) (by kernel_rfl) (fun _ _ _ h => h) ⟨HS.rec_.cell 0, HS.rec_.cell 1, HS.rec_.cell 2, HS.rec_.cell 3, HS.rec_.cell 4, HS.rec_.cell 5, HS.rec_.cell 6, (HAA.out ▸ HS.led.c7), HAvail.out _ HS.led, HS⟩ _ (fun W hW => _) _
              rotate_left
              focus (go_simp; done)
              focus (obtain ⟨k1, k2, k3, k4, k5, k6, k7, k8, k9, X9⟩ := hW; go_simp; first | done | (with_reducible rfl))
              simp only [Act.put, List.setIfInBounds_toArray, List.set_cons_zero, List.set_cons_succ]
              refine' stage_take (i := 15) _ rfl (by kernel_rfl) (by kernel_rfl) (by kernel_rfl) (by kernel_rfl) (fun _ _ _ h => h) ⟨HS.rec_.cell 0, HS.rec_.cell 1, HS.rec_.cell 2, HS.rec_.cell 3, HS.rec_.cell 4, HS.rec_.cell 5, HS.rec_.cell 6, (HAA.out ▸ HS.led.c7), HAvail.out _ HS.led, HS⟩ _ (fun W hW => _) _
              rotate_left
              focus (go_simp; done)
              focus (obtain ⟨k1, k2, k3, k4, k5, k6, k7, k8, k9, X9⟩ := hW; go_simp; first | done | (with_reducible rfl))
              simp only [Act.put, List.setIfInBounds_toArray, List.set_cons_zero, List.set_cons_succ]
              refine' stage_take (i := 16) _ rfl (by kernel_rfl) (by kernel_rfl) (by kernel_rfl) (by kernel_rfl) (fun _ _ _ h => h) ⟨HS.rec_.cell 0, HS.rec_.cell 1, HS.rec_.cell 2, HS.rec_.cell 3, HS.rec_.cell 4, HS.rec_.cell 5, HS.rec_.cell 6, (HAA.out ▸ HS.led.c7), HAvail.out _ HS.led, HS⟩ _ (fun W hW => _) _
              rotate_left
              focus (go_simp; done)
              focus (obtain ⟨k1, k2, k3, k4, k5, k6, k7, k8, k9, X9⟩ := hW; go_simp; first | done | (with_reducible rfl))
              simp only [Act.put, List.setIfInBounds_toArray, List.set_cons_zero, List.set_cons_succ]
              refine' stage_take (i := 17) _ rfl (by kernel_rfl) (by kernel_rfl) (by kernel_rfl) (by kernel_rfl) (fun _ _ _ h => h) ⟨HS.rec_.cell 0, HS.rec_.cell 1, HS.rec_.cell 2, HS.rec_.cell 3, HS.rec_.cell 4, HS.rec_.cell 5, HS.rec_.cell 6, (HAA.out ▸ HS.led.c7), HAvail.out _ HS.led, HS⟩ _ (fun W hW => _) _
              rotate_left
              focus (go_simp; done)
              focus (obtain ⟨k1, k2, k3, k4, k5, k6, k7, k8, k9, X9⟩ := hW; go_simp; first | done | (with_reducible rfl))
              simp only [Act.put, List.setIfInBounds_toArray, List.set_cons_zero, List.set_cons_succ]
              refine' stage_take (i := 18) _ rfl (by kernel_rfl) (by kernel_rfl) (by kernel_rfl) (by kernel_rfl) (fun _ _ _ h => h) ⟨HS.rec_.cell 0, HS.rec_.cell 1, HS.rec_.cell 2, HS.rec_.cell 3, HS.rec_.cell 4, HS.rec_.cell 5, HS.rec_.cell 6, (HAA.out ▸ HS.led.c7), HAvail.out _ HS.led, HS⟩ _ (fun W hW => _) _
              rotate_left
              focus (go_simp; done)
              focus (obtain ⟨k1, k2, k3, k4, k5, k6, k7, k8, k9, X9⟩ := hW; go_simp; first | done | (with_reducible rfl))
              simp only [Act.put, List.setIfInBounds_toArray, List.set_cons_zero, List.set_cons_succ]
              refine' stage_take (i := 19) _ rfl (by kernel_rfl) (by kernel_rfl) (by kernel_rfl) (by kernel_rfl) (fun _ _ _ h => h) ⟨HS.rec_.cell 0, HS.rec_.cell 1, HS.rec_.cell 2, HS.rec_.cell 3, HS.rec_.cell 4, HS.rec_.cell 5, HS.rec_.cell 6, (HAA.out ▸ HS.led.c7), HAvail.out _ HS.led, HS⟩ _ (fun W hW => _) _
              rotate_left
              focus (go_simp; done)
              focus (obtain ⟨k1, k2, k3, k4, k5, k6, k7, k8, k9, X9⟩ := hW; go_simp; first | done | (with_reducible rfl))
              simp only [Act.put, List.setIfInBounds_toArray, List.set_cons_zero, List.set_cons_succ]
              refine' stage_take (i := 20) _ rfl (by kernel_rfl) (by kernel_rfl) (by kernel_rfl) (by kernel_rfl) (fun _ _ _ h => h) ⟨HS.rec_.cell 0, HS.rec_.cell 1, HS.rec_.cell 2, HS.rec_.cell 3, HS.rec_.cell 4, HS.rec_.cell 5, HS.rec_.cell 6, (HAA.out ▸ HS.led.c7), HAvail.out _ HS.led, HS⟩ _ (fun W hW => _) _
              rotate_left
              focus (go_simp; done)
              focus (obtain ⟨k1, k2, k3, k4, k5, k6, k7, k8, k9, X9⟩ := hW; go_simp; first | done | (with_reducible rfl))
              simp only [Act.put, List.setIfInBounds_toArray, List.set_cons_zero, List.set_cons_succ]
              refine stage_only (i := 13) rfl (by kernel_rfl) ?_ (fun K hK => ?_)
              focus (go_simp; done)
              go_simp
              go_at_call 31
              refine (rbit_calls x5 _).mono ?_
              rintro e w4 ⟨rfl, rfl⟩
              go_simp
              replace HS := HS
              refine hK.out _ _ (fun _ => ⟨HS.rec_.cell 0, HS.rec_.cell 1, HS.rec_.cell 2, HS.rec_.cell 3, HS.rec_.cell 4, HS.rec_.cell 5, HS.rec_.cell 6, (HAA.out ▸ HS.led.c7), HAvail.out _ HS.led, HS⟩) ?_
              clear hK K
              try simp only [Act.put, List.setIfInBounds_toArray, List.set_cons_zero, List.set_cons_succ]
              refine stage_only (i := 21) rfl (by kernel_rfl) ?_ (fun K hK => ?_)
              focus (go_simp; done)
              go_simp
              replace HS := HS.keep ((Below.refl _ _).alloc (Nat.le_refl _) (.cells #[.int .i64 x0, .int .i64 x1, .int .i64 x2, .int .i64 x3, .int .i64 x4, .int .i64 (bitF x5), .int .i64 x6, .int .i64 y] 3))
              refine hK.out _ _ (fun _ => ⟨HS.rec_.cell 0, HS.rec_.cell 1, HS.rec_.cell 2, HS.rec_.cell 3, HS.rec_.cell 4, HS.rec_.cell 5, HS.rec_.cell 6, (HAA.out ▸ HS.led.c7), HAvail.out _ HS.led, HS⟩) ?_
              clear hK K
              try simp only [Act.put, List.setIfInBounds_toArray, List.set_cons_zero, List.set_cons_succ]
              refine stage_only (i := 22) rfl (by kernel_rfl) ?_ (fun K hK => ?_)
              focus (go_simp; done)
              go_simp
              go_at_call 30
              refine (put_step (A := w3.drew) OA.out hz2 [x0, x1, x2, x3, x4, bitF x5, x6, y] (by simp only [List.length_cons, List.length_nil]; omega) #[.int .i64 x0, .int .i64 x1, .int .i64 x2, .int .i64 x3, .int .i64 x4, .int .i64 (bitF x5), .int .i64 x6, .int .i64 y] rfl 8 rfl).mono ?_
              rintro e w4 ⟨o4, rfl, own4, app4⟩
              go_simp
              replace HS := recH_app RA.out.drew HAt.out (by decide) (own_drew OA.out) app4
              refine hK.out _ _ (fun _ => ⟨HS.rec_.cell 0, HS.rec_.cell 1, HS.rec_.cell 2, HS.rec_.cell 3, HS.rec_.cell 4, HS.rec_.cell 5, HS.rec_.cell 6, (HAA.out ▸ HS.led.c7), HAvail.out _ HS.led, HS⟩) ?_
              clear hK K
              try simp only [Act.put, List.setIfInBounds_toArray, List.set_cons_zero, List.set_cons_succ]
              refine stage_only (i := 23) rfl (by kernel_rfl) ?_ (fun K hK => ?_)
              focus (go_simp; done)
              go_simp
              refine hK.out _ _ (fun h => absurd h (by decide)) ?_
              clear hK K
              try simp only [Act.put, List.setIfInBounds_toArray, List.set_cons_zero, List.set_cons_succ]
              refine stage_end (by kernel_rfl) ?_
              have RE := Lib.hid HS
              clear HS
              go_wp2_with fail
              go_roundw
              case rel => exact ⟨k + 1, by omega, by go_num, RE.out.led, by rw [HPre.out]; exact own4⟩
              case measure => simp [intOf]; omega
            · obtain rfl : k = l.instrs.length := by omega
              rw [List.take_of_length_le (by rw [List.length_zip]; omega)] at own
              have HB2 : Hid ((pre ++ (l.instrs.zip l.avail).flatMap encI).length ≤ 120000064) := by
                have h1 := flat_size encI 64 (l.instrs.zip l.avail) (fun x _ => by unfold encI; rw [encs_len]; exact Nat.le_refl _)
                have h2 := HB.out
                have h3 : (l.instrs.zip l.avail).length ≤ 1000000 := by rw [List.length_zip]; omega
                have h4 : 64 * (l.instrs.zip l.avail).length ≤ 64 * 1000000 := Nat.mul_le_mul_left _ h3
                unfold Hid
                rw [List.length_append]
                omega
              have HO := Lib.hid own
              have X2 := Lib.hid X
              clear own X HB
              have HB := HB2
              clear HB2
              generalize pre ++ (l.instrs.zip l.avail).flatMap encI = pre2 at HO HB HP0
              obtain ⟨pre, hpre⟩ : ∃ p, p = pre2 := ⟨_, rfl⟩
              subst hpre
              have c4 := X2.out.c4
              have hlt0 := X2.out.box.lt
              clear hlt0
              go_wp2_with fail
              clear c4
              go_loopw [4, 124] (fun o i wr => ∃ k : Nat, k ≤ l.accts.length ∧ i = .int .i64 (k : Int) ∧ LedH w wr w.heap.size s l vs ∧ wr.ownsRow (w.heap.size + 1) 5 1 o (pre ++ (l.accts.take k).flatMap encA).length (u8s (pre ++ (l.accts.take k).flatMap encA))) (fun _ i _ => l.accts.length - (intOf i).toNat)
              case atStart => exact ⟨0, by omega, rfl, X2.out, by simpa using HO.out⟩
              case round =>
                clear X2 HO
                obtain ⟨k, hk, rfl, X, own⟩ := hrel
                by_cases hlt : k < l.accts.length
                · have hsz : (pre ++ (l.accts.take k).flatMap encA).length ≤ 176000064 := by
                    have h1 := flat_size encA 56 (l.accts.take k) (fun a ha => by have h1 := HCash.out a (List.mem_of_mem_take ha); unfold encA; rw [List.length_append, encs_len, encs_len]; simp only [List.length_cons, List.length_nil]; omega)
                    have h2 := HB.out
                    have h3 : (l.accts.take k).length ≤ 1000000 := by rw [List.length_take]; omega
                    have h4 : 56 * (l.accts.take k).length ≤ 56 * 1000000 := Nat.mul_le_mul_left _ h3
                    rw [List.length_append]
                    omega
                  have HNX := Lib.hid (flat_next encA hlt)
                  have hlv : k < vs.length := by rw [HLen.out]; exact hlt
                  obtain ⟨b, off, ha, C1⟩ := rec_at len_acc (by decide) X.at_.accts hlv
                  have hcash := HAt.out.cash _ (List.getElem_mem hlv)
                  have hcl := HCash.out _ (List.getElem_mem hlt)
                  have hke := LedAt.acc X.at_ hlv hlt
                  generalize l.accts[k] = a at *
                  generalize vs[k] = x at *
                  obtain ⟨xv, xa⟩ := x
                  simp only at hke
                  subst hke
                  obtain ⟨x0, x1, x2, x3⟩ := xa
                  obtain ⟨ca, cc, hxv, _, hcat0⟩ := hcash
                  simp only at hxv hcat0 hcl
                  subst hxv
                  have d0 := C1 0 _ rfl
                  have d1 := C1 1 _ rfl
                  have d2 := C1 2 _ rfl
                  have d3 := C1 3 _ rfl
                  clear C1
                  simp only [← Nat.add_assoc, Nat.add_zero] at d0 d1 d2 d3
                  rw [ha]
                  clear ha
                  go_upto_region 24 with fail
                  have RA := Lib.hid (RecH.new X 46 #[.int .i64 x0, .slice ca x1.length cc, .bool x2, .int .i64 x3])
                  have OA := Lib.hid (own.alloc (.cells #[.int .i64 x0, .slice ca x1.length cc, .bool x2, .int .i64 x3] 46))
                  have hlowA := X.low.alloc X.low.size (.cells #[.int .i64 x0, .slice ca x1.length cc, .bool x2, .int .i64 x3] 46)
                  have hcat2 := hcat0.keep hlowA
                  have hz := X.box.lt
                  clear X own d0 d1 d2 d3
                  have hz2 : w.heap.size + 1 ≤ (wr.alloc (.cells #[.int .i64 x0, .slice ca x1.length cc, .bool x2, .int .i64 x3] 46)).heap.size := by rw [World.size_alloc]; omega
                  generalize wr.alloc (.cells #[.int .i64 x0, .slice ca x1.length cc, .bool x2, .int .i64 x3] 46) = w3 at *
                  obtain ⟨g, hg⟩ : ∃ g, g = wr.heap.size := ⟨_, rfl⟩
                  rw [← hg] at RA ⊢
                  clear hg hz
                  have HPre : Hid (pre ++ (l.accts.take (k + 1)).flatMap encA = pre ++ (l.accts.take k).flatMap encA ++ encA ⟨x0, x1, x2, x3⟩) := by unfold Hid; rw [HNX.out, List.append_assoc]
                  clear HNX
                  generalize pre ++ (l.accts.take k).flatMap encA = bs at HPre OA hsz
                  have hsep2 := sep_low (W := w3.drew) hcat0 (own_drew OA.out) hlowA.size
                  refine stage_region 10 (fun W => W.cell? ⟨g, 0, none⟩ = some (.int .i64 x0) ∧ W.cell? ⟨g, 1, none⟩ = some (.slice ca x1.length cc) ∧ W.cell? ⟨g, 2, none⟩ = some (.bool x2) ∧ W.cell? ⟨g, 3, none⟩ = some (.int .i64 x3) ∧ RecH w W s l vs g 46 #[.int .i64 x0, .slice ca x1.length cc, .bool x2, .int .i64 x3]) (by kernel_rfl) ?_
                  have HS := RA.out.drew
                  refine' stage_take (i := 0) _ rfl (by kernel_rfl) (by kernel_rfl) (by kernel_rfl) (by kernel_rfl) (fun _ _ _ h => h) ⟨HS.rec_.cell 0, HS.rec_.cell 1, HS.rec_.cell 2, HS.rec_.cell 3, HS⟩ _ (fun W hW => _) _
                  rotate_left
                  focus (go_simp; done)
                  focus (obtain ⟨k1, k2, k3, k4, X9⟩ := hW; go_simp; first | done | (with_reducible rfl))
                  simp only [Act.put, List.setIfInBounds_toArray, List.set_cons_zero, List.set_cons_succ]
                  refine' stage_take (i := 1) _ rfl (by kernel_rfl) (by kernel_rfl) (by kernel_rfl) (by kernel_rfl) (fun _ _ _ h => h) ⟨HS.rec_.cell 0, HS.rec_.cell 1, HS.rec_.cell 2, HS.rec_.cell 3, HS⟩ _ (fun W hW => _) _
                  rotate_left
                  focus (go_simp; done)
                  focus (obtain ⟨k1, k2, k3, k4, X9⟩ := hW; go_simp; first | done | (with_reducible rfl))
                  simp only [Act.put, List.setIfInBounds_toArray, List.set_cons_zero, List.set_cons_succ]
                  refine' stage_take (i := 2) _ rfl (by kernel_rfl) (by kernel_rfl) (by kernel_rfl) (by kernel_rfl) (fun _ _ _ h => h) ⟨HS.rec_.cell 0, HS.rec_.cell 1, HS.rec_.cell 2, HS.rec_.cell 3, HS⟩ _ (fun W hW => _) _
                  rotate_left
                  focus (go_simp; done)
                  focus (obtain ⟨k1, k2, k3, k4, X9⟩ := hW; go_simp; first | done | (with_reducible rfl))
                  simp only [Act.put, List.setIfInBounds_toArray, List.set_cons_zero, List.set_cons_succ]
                  refine' stage_take (i := 3) _ rfl (by kernel_rfl) (by kernel_rfl) (by kernel_rfl) (by kernel_rfl) (fun _ _ _ h => h) ⟨HS.rec_.cell 0, HS.rec_.cell 1, HS.rec_.cell 2, HS.rec_.cell 3, HS⟩ _ (fun W hW => _) _
                  rotate_left
                  focus (go_simp; done)
                  focus (obtain ⟨k1, k2, k3, k4, X9⟩ := hW; go_simp; first | done | (with_reducible rfl))
                  simp only [Act.put, List.setIfInBounds_toArray, List.set_cons_zero, List.set_cons_succ]
                  refine' stage_take (i := 4) _ rfl (by kernel_rfl) (by kernel_rfl) (by kernel_rfl) (by kernel_rfl) (fun _ _ _ h => h) ⟨HS.rec_.cell 0, HS.rec_.cell 1, HS.rec_.cell 2, HS.rec_.cell 3, HS⟩ _ (fun W hW => _) _
                  rotate_left
                  focus (go_simp; done)
                  focus (obtain ⟨k1, k2, k3, k4, X9⟩ := hW; go_simp; first | done | (with_reducible rfl))
                  simp only [Act.put, List.setIfInBounds_toArray, List.set_cons_zero, List.set_cons_succ]
                  refine' stage_take (i := 6) _ rfl (by kernel_rfl) (by kernel_rfl) (by kernel_rfl) (by kernel_rfl) (fun _ _ _ h => h) ⟨HS.rec_.cell 0, HS.rec_.cell 1, HS.rec_.cell 2, HS.rec_.cell 3, HS⟩ _ (fun W hW => _) _
                  rotate_left
                  focus (go_simp; done)
                  focus (obtain ⟨k1, k2, k3, k4, X9⟩ := hW; go_simp; first | done | (with_reducible rfl))
                  simp only [Act.put, List.setIfInBounds_toArray, List.set_cons_zero, List.set_cons_succ]
                  refine' stage_take (i := 7) _ rfl (by kernel_rfl) (by kernel_rfl) (by kernel_rfl) (by kernel_rfl) (fun _ _ _ h => h) ⟨HS.rec_.cell 0, HS.rec_.cell 1, HS.rec_.cell 2, HS.rec_.cell 3, HS⟩ _ (fun W hW => _) _
                  rotate_left
                  focus (go_simp; done)
                  focus (obtain ⟨k1, k2, k3, k4, X9⟩ := hW; go_simp; first | done | (with_reducible rfl))
                  simp only [Act.put, List.setIfInBounds_toArray, List.set_cons_zero, List.set_cons_succ]
                  refine stage_only (i := 5) rfl (by kernel_rfl) ?_ (fun K hK => ?_)
                  focus (go_simp; done)
                  go_simp
                  go_at_call 31
                  refine (rbit_calls x2 _).mono ?_
                  rintro e w4 ⟨rfl, rfl⟩
                  go_simp
                  replace HS := HS
                  refine hK.out _ _ (fun _ => ⟨HS.rec_.cell 0, HS.rec_.cell 1, HS.rec_.cell 2, HS.rec_.cell 3, HS⟩) ?_
                  clear hK K
                  try simp only [Act.put, List.setIfInBounds_toArray, List.set_cons_zero, List.set_cons_succ]
                  refine stage_only (i := 8) rfl (by kernel_rfl) ?_ (fun K hK => ?_)
                  focus (go_simp; done)
                  go_simp
                  replace HS := HS.keep ((Below.refl _ _).alloc (Nat.le_refl _) (.cells #[.int .i64 x0, .int .i64 (bitF x2), .int .i64 x3] 3))
                  refine hK.out _ _ (fun _ => ⟨HS.rec_.cell 0, HS.rec_.cell 1, HS.rec_.cell 2, HS.rec_.cell 3, HS⟩) ?_
                  clear hK K
                  try simp only [Act.put, List.setIfInBounds_toArray, List.set_cons_zero, List.set_cons_succ]
                  refine stage_only (i := 9) rfl (by kernel_rfl) ?_ (fun K hK => ?_)
                  focus (go_simp; done)
                  go_simp
                  go_at_call 30
                  refine (put_step (A := w3.drew) OA.out hz2 [x0, bitF x2, x3] (by simp only [List.length_cons, List.length_nil]; omega) #[.int .i64 x0, .int .i64 (bitF x2), .int .i64 x3] rfl 3 rfl).mono ?_
                  rintro e w5 ⟨o5, rfl, own5, app5⟩
                  go_simp
                  replace HS := recH_app RA.out.drew HAt.out (by decide) (own_drew OA.out) app5
                  refine hK.out _ _ (fun _ => ⟨HS.rec_.cell 0, HS.rec_.cell 1, HS.rec_.cell 2, HS.rec_.cell 3, HS⟩) ?_
                  clear hK K
                  try simp only [Act.put, List.setIfInBounds_toArray, List.set_cons_zero, List.set_cons_succ]
                  refine stage_only (i := 10) rfl (by kernel_rfl) ?_ (fun K hK => ?_)
                  focus (go_simp; done)
                  go_simp
                  refine hK.out _ _ (fun h => absurd h (by decide)) ?_
                  clear hK K
                  try simp only [Act.put, List.setIfInBounds_toArray, List.set_cons_zero, List.set_cons_succ]
                  refine stage_end (by kernel_rfl) ?_
                  have RE := Lib.hid HS
                  have hz5 := app5.grown.size
                  have hl5 : (bs ++ encs [x0, bitF x2, x3]).length + 8 * x1.length ≤ 1000000000 := by rw [List.length_append, encs_len]; simp only [List.length_cons, List.length_nil]; omega
                  have CQ := Lib.hid (put_calls (w.heap.size + 1) o5 (bs ++ encs [x0, bitF x2, x3]) ca cc x1 _ own5 (Nat.le_trans hz2 hz5) hl5 (at_app (show At w3.drew ca (i64s x1) from hcat2) app5 hsep2) (app5.apart hsep2))
                  have e1 : _ = some _ := RE.out.rec_.cell 1
                  clear HS
                  go_wp2_with (go_at_call 30; refine CQ.out.mono ?_; rintro e w6 ⟨o6, rfl, own6, app6⟩)
                  go_roundw
                  case rel => exact ⟨k + 1, by omega, by go_num, (recH_app RE.out HAt.out (by decide) own5 app6).led, by rw [HPre.out]; unfold encA; rw [← List.append_assoc]; exact own6⟩
                  case measure => simp [intOf]; omega
                · obtain rfl : k = l.accts.length := by omega
                  rw [List.take_length] at own
                  have HB2 : Hid ((pre ++ l.accts.flatMap encA).length ≤ 176000064) := by
                    have h1 := flat_size encA 56 l.accts (fun a ha => by have h1 := HCash.out a ha; unfold encA; rw [List.length_append, encs_len, encs_len]; simp only [List.length_cons, List.length_nil]; omega)
                    have h2 := HB.out
                    have h3 : l.accts.length ≤ 1000000 := by omega
                    have h4 : 56 * l.accts.length ≤ 56 * 1000000 := Nat.mul_le_mul_left _ h3
                    unfold Hid
                    rw [List.length_append]
                    omega
                  have HO := Lib.hid own
                  have X2 := Lib.hid X
                  clear own X HB
                  have HB := HB2
                  clear HB2
                  generalize pre ++ l.accts.flatMap encA = pre2 at HO HB HP0
                  obtain ⟨pre, hpre⟩ : ∃ p, p = pre2 := ⟨_, rfl⟩
                  subst hpre
                  have c5 := X2.out.c5
                  have hlt0 := X2.out.box.lt
                  clear hlt0
                  go_wp2_with fail
                  clear c5
                  go_loopw [4, 146] (fun o i wr => ∃ k : Nat, k ≤ l.poss.length ∧ i = .int .i64 (k : Int) ∧ LedH w wr w.heap.size s l vs ∧ wr.ownsRow (w.heap.size + 1) 5 1 o (pre ++ (l.poss.take k).flatMap encP).length (u8s (pre ++ (l.poss.take k).flatMap encP))) (fun _ i _ => l.poss.length - (intOf i).toNat)
                  case atStart => exact ⟨0, by omega, rfl, X2.out, by simpa using HO.out⟩
                  case round =>
                    clear X2 HO
                    obtain ⟨k, hk, rfl, X, own⟩ := hrel
                    by_cases hlt : k < l.poss.length
                    · have hsz : (pre ++ (l.poss.take k).flatMap encP).length ≤ 200000064 := by
                        have h1 := flat_size encP 24 (l.poss.take k) (fun x _ => by unfold encP; rw [encs_len]; exact Nat.le_refl _)
                        have h2 := HB.out
                        have h3 : (l.poss.take k).length ≤ 1000000 := by rw [List.length_take]; omega
                        have h4 : 24 * (l.poss.take k).length ≤ 24 * 1000000 := Nat.mul_le_mul_left _ h3
                        rw [List.length_append]
                        omega
                      have HNX := Lib.hid (flat_next encP hlt)
                      obtain ⟨b, off, ha, C1⟩ := rec_at len_pos (by decide) X.at_.poss hlt
                      generalize l.poss[k] = x at *
                      obtain ⟨x0, x1, x2⟩ := x
                      have d0 := C1 0 _ rfl
                      have d1 := C1 1 _ rfl
                      have d2 := C1 2 _ rfl
                      clear C1
                      simp only [← Nat.add_assoc, Nat.add_zero] at d0 d1 d2
                      rw [ha]
                      clear ha
                      go_upto_region 30 with fail
                      have RA := Lib.hid (RecH.new X 63 #[.int .i64 x0, .int .i64 x1, .int .i64 x2])
                      have OA := Lib.hid (own.alloc (.cells #[.int .i64 x0, .int .i64 x1, .int .i64 x2] 63))
                      have hz := X.box.lt
                      clear X own d0 d1 d2
                      have hz2 : w.heap.size + 1 ≤ (wr.alloc (.cells #[.int .i64 x0, .int .i64 x1, .int .i64 x2] 63)).heap.size := by rw [World.size_alloc]; omega
                      generalize wr.alloc (.cells #[.int .i64 x0, .int .i64 x1, .int .i64 x2] 63) = w3 at *
                      obtain ⟨g, hg⟩ : ∃ g, g = wr.heap.size := ⟨_, rfl⟩
                      rw [← hg] at RA ⊢
                      clear hg hz
                      have HPre : Hid (pre ++ (l.poss.take (k + 1)).flatMap encP = pre ++ (l.poss.take k).flatMap encP ++ encP ⟨x0, x1, x2⟩) := by unfold Hid; rw [HNX.out, List.append_assoc]
                      clear HNX
                      generalize pre ++ (l.poss.take k).flatMap encP = bs at HPre OA hsz
                      have e0 : w3.cell? ⟨g, 0, none⟩ = some (.int .i64 x0) := RA.out.rec_.cell 0
                      have e1 : w3.cell? ⟨g, 1, none⟩ = some (.int .i64 x1) := RA.out.rec_.cell 1
                      have e2 : w3.cell? ⟨g, 2, none⟩ = some (.int .i64 x2) := RA.out.rec_.cell 2
                      have HS := Lib.hid (put_step OA.out hz2 [x0, x1, x2] (by simp only [List.length_cons, List.length_nil]; omega) #[.int .i64 x0, .int .i64 x1, .int .i64 x2] rfl 3 rfl)
                      go_wp2_with (go_at_call 30; refine HS.out.mono ?_; rintro e w4 ⟨o4, rfl, own4, app4⟩)
                      go_roundw
                      case rel => exact ⟨k + 1, by omega, by go_num, (recH_app RA.out HAt.out (by decide) OA.out app4).led, by rw [HPre.out]; exact own4⟩
                      case measure => simp [intOf]; omega
                    · obtain rfl : k = l.poss.length := by omega
                      rw [List.take_length] at own
                      have HB2 : Hid ((pre ++ l.poss.flatMap encP).length ≤ 200000064) := by
                        have h1 := flat_size encP 24 l.poss (fun x _ => by unfold encP; rw [encs_len]; exact Nat.le_refl _)
                        have h2 := HB.out
                        have h3 : l.poss.length ≤ 1000000 := by omega
                        have h4 : 24 * l.poss.length ≤ 24 * 1000000 := Nat.mul_le_mul_left _ h3
                        unfold Hid
                        rw [List.length_append]
                        omega
                      have HO := Lib.hid own
                      have X2 := Lib.hid X
                      clear own X HB
                      have HB := HB2
                      clear HB2
                      generalize pre ++ l.poss.flatMap encP = pre2 at HO HB HP0
                      obtain ⟨pre, hpre⟩ : ∃ p, p = pre2 := ⟨_, rfl⟩
                      subst hpre
                      have c6 := X2.out.c6
                      have hlt0 := X2.out.box.lt
                      clear hlt0
                      go_wp2_with fail
                      clear c6
                      go_loopw [4, 163] (fun o i wr => ∃ k : Nat, k ≤ l.orders.length ∧ i = .int .i64 (k : Int) ∧ LedH w wr w.heap.size s l vs ∧ wr.ownsRow (w.heap.size + 1) 5 1 o (pre ++ (l.orders.take k).flatMap encO).length (u8s (pre ++ (l.orders.take k).flatMap encO))) (fun _ i _ => l.orders.length - (intOf i).toNat)
                      case atStart => exact ⟨0, by omega, rfl, X2.out, by simpa using HO.out⟩
                      case round =>
                        clear X2 HO
                        obtain ⟨k, hk, rfl, X, own⟩ := hrel
                        by_cases hlt : k < l.orders.length
                        · have hsz : (pre ++ (l.orders.take k).flatMap encO).length ≤ 240000064 := by
                            have h1 := flat_size encO 40 (l.orders.take k) (fun x _ => by unfold encO; rw [encs_len]; exact Nat.le_refl _)
                            have h2 := HB.out
                            have h3 : (l.orders.take k).length ≤ 1000000 := by rw [List.length_take]; omega
                            have h4 : 40 * (l.orders.take k).length ≤ 40 * 1000000 := Nat.mul_le_mul_left _ h3
                            rw [List.length_append]
                            omega
                          have HNX := Lib.hid (flat_next encO hlt)
                          obtain ⟨b, off, ha, C1⟩ := rec_at len_ord (by decide) X.at_.orders hlt
                          generalize l.orders[k] = x at *
                          obtain ⟨x0, x1, x2, x3, x4⟩ := x
                          have d0 := C1 0 _ rfl
                          have d1 := C1 1 _ rfl
                          have d2 := C1 2 _ rfl
                          have d3 := C1 3 _ rfl
                          have d4 := C1 4 _ rfl
                          clear C1
                          simp only [← Nat.add_assoc, Nat.add_zero] at d0 d1 d2 d3 d4
                          rw [ha]
                          clear ha
                          go_upto_region 35 with fail
                          have RA := Lib.hid (RecH.new X 65 #[.int .i64 x0, .int .i64 x1, .int .i64 x2, .int .i64 x3, .int .i64 x4])
                          have OA := Lib.hid (own.alloc (.cells #[.int .i64 x0, .int .i64 x1, .int .i64 x2, .int .i64 x3, .int .i64 x4] 65))
                          have hz := X.box.lt
                          clear X own d0 d1 d2 d3 d4
                          have hz2 : w.heap.size + 1 ≤ (wr.alloc (.cells #[.int .i64 x0, .int .i64 x1, .int .i64 x2, .int .i64 x3, .int .i64 x4] 65)).heap.size := by rw [World.size_alloc]; omega
                          generalize wr.alloc (.cells #[.int .i64 x0, .int .i64 x1, .int .i64 x2, .int .i64 x3, .int .i64 x4] 65) = w3 at *
                          obtain ⟨g, hg⟩ : ∃ g, g = wr.heap.size := ⟨_, rfl⟩
                          rw [← hg] at RA ⊢
                          clear hg hz
                          have HPre : Hid (pre ++ (l.orders.take (k + 1)).flatMap encO = pre ++ (l.orders.take k).flatMap encO ++ encO ⟨x0, x1, x2, x3, x4⟩) := by unfold Hid; rw [HNX.out, List.append_assoc]
                          clear HNX
                          generalize pre ++ (l.orders.take k).flatMap encO = bs at HPre OA hsz
                          have e0 : w3.cell? ⟨g, 0, none⟩ = some (.int .i64 x0) := RA.out.rec_.cell 0
                          have e1 : w3.cell? ⟨g, 1, none⟩ = some (.int .i64 x1) := RA.out.rec_.cell 1
                          have e2 : w3.cell? ⟨g, 2, none⟩ = some (.int .i64 x2) := RA.out.rec_.cell 2
                          have e3 : w3.cell? ⟨g, 3, none⟩ = some (.int .i64 x3) := RA.out.rec_.cell 3
                          have e4 : w3.cell? ⟨g, 4, none⟩ = some (.int .i64 x4) := RA.out.rec_.cell 4
                          have HS := Lib.hid (put_step OA.out hz2 [x0, x1, x2, x3, x4] (by simp only [List.length_cons, List.length_nil]; omega) #[.int .i64 x0, .int .i64 x1, .int .i64 x2, .int .i64 x3, .int .i64 x4] rfl 5 rfl)
                          go_wp2_with (go_at_call 30; refine HS.out.mono ?_; rintro e w4 ⟨o4, rfl, own4, app4⟩)
                          go_roundw
                          case rel => exact ⟨k + 1, by omega, by go_num, (recH_app RA.out HAt.out (by decide) OA.out app4).led, by rw [HPre.out]; exact own4⟩
                          case measure => simp [intOf]; omega
                        · obtain rfl : k = l.orders.length := by omega
                          rw [List.take_length] at own
                          have HB2 : Hid ((pre ++ l.orders.flatMap encO).length ≤ 240000064) := by
                            have h1 := flat_size encO 40 l.orders (fun x _ => by unfold encO; rw [encs_len]; exact Nat.le_refl _)
                            have h2 := HB.out
                            have h3 : l.orders.length ≤ 1000000 := by omega
                            have h4 : 40 * l.orders.length ≤ 40 * 1000000 := Nat.mul_le_mul_left _ h3
                            unfold Hid
                            rw [List.length_append]
                            omega
                          have HO := Lib.hid own
                          have X2 := Lib.hid X
                          clear own X HB
                          have HB := HB2
                          clear HB2
                          generalize pre ++ l.orders.flatMap encO = pre2 at HO HB HP0
                          obtain ⟨pre, hpre⟩ : ∃ p, p = pre2 := ⟨_, rfl⟩
                          subst hpre
                          have c8 := X2.out.c8
                          have hlt0 := X2.out.box.lt
                          clear hlt0
                          go_wp2_with fail
                          clear c8
                          go_loopw [4, 184] (fun o i wr => ∃ k : Nat, k ≤ l.locs.length ∧ i = .int .i64 (k : Int) ∧ LedH w wr w.heap.size s l vs ∧ wr.ownsRow (w.heap.size + 1) 5 1 o (pre ++ (l.locs.take k).flatMap encP).length (u8s (pre ++ (l.locs.take k).flatMap encP))) (fun _ i _ => l.locs.length - (intOf i).toNat)
                          case atStart => exact ⟨0, by omega, rfl, X2.out, by simpa using HO.out⟩
                          case round =>
                            clear X2 HO
                            obtain ⟨k, hk, rfl, X, own⟩ := hrel
                            by_cases hlt : k < l.locs.length
                            · have hsz : (pre ++ (l.locs.take k).flatMap encP).length ≤ 264000064 := by
                                have h1 := flat_size encP 24 (l.locs.take k) (fun x _ => by unfold encP; rw [encs_len]; exact Nat.le_refl _)
                                have h2 := HB.out
                                have h3 : (l.locs.take k).length ≤ 1000000 := by rw [List.length_take]; omega
                                have h4 : 24 * (l.locs.take k).length ≤ 24 * 1000000 := Nat.mul_le_mul_left _ h3
                                rw [List.length_append]
                                omega
                              have HNX := Lib.hid (flat_next encP hlt)
                              obtain ⟨b, off, ha, C1⟩ := rec_at len_pos (by decide) X.at_.locs hlt
                              generalize l.locs[k] = x at *
                              obtain ⟨x0, x1, x2⟩ := x
                              have d0 := C1 0 _ rfl
                              have d1 := C1 1 _ rfl
                              have d2 := C1 2 _ rfl
                              clear C1
                              simp only [← Nat.add_assoc, Nat.add_zero] at d0 d1 d2
                              rw [ha]
                              clear ha
                              go_upto_region 40 with fail
                              have RA := Lib.hid (RecH.new X 66 #[.int .i64 x0, .int .i64 x1, .int .i64 x2])
                              have OA := Lib.hid (own.alloc (.cells #[.int .i64 x0, .int .i64 x1, .int .i64 x2] 66))
                              have hz := X.box.lt
                              clear X own d0 d1 d2
                              have hz2 : w.heap.size + 1 ≤ (wr.alloc (.cells #[.int .i64 x0, .int .i64 x1, .int .i64 x2] 66)).heap.size := by rw [World.size_alloc]; omega
                              generalize wr.alloc (.cells #[.int .i64 x0, .int .i64 x1, .int .i64 x2] 66) = w3 at *
                              obtain ⟨g, hg⟩ : ∃ g, g = wr.heap.size := ⟨_, rfl⟩
                              rw [← hg] at RA ⊢
                              clear hg hz
                              have HPre : Hid (pre ++ (l.locs.take (k + 1)).flatMap encP = pre ++ (l.locs.take k).flatMap encP ++ encP ⟨x0, x1, x2⟩) := by unfold Hid; rw [HNX.out, List.append_assoc]
                              clear HNX
                              generalize pre ++ (l.locs.take k).flatMap encP = bs at HPre OA hsz
                              have e0 : w3.cell? ⟨g, 0, none⟩ = some (.int .i64 x0) := RA.out.rec_.cell 0
                              have e1 : w3.cell? ⟨g, 1, none⟩ = some (.int .i64 x1) := RA.out.rec_.cell 1
                              have e2 : w3.cell? ⟨g, 2, none⟩ = some (.int .i64 x2) := RA.out.rec_.cell 2
                              have HS := Lib.hid (put_step OA.out hz2 [x0, x1, x2] (by simp only [List.length_cons, List.length_nil]; omega) #[.int .i64 x0, .int .i64 x1, .int .i64 x2] rfl 3 rfl)
                              go_wp2_with (go_at_call 30; refine HS.out.mono ?_; rintro e w4 ⟨o4, rfl, own4, app4⟩)
                              go_roundw
                              case rel => exact ⟨k + 1, by omega, by go_num, (recH_app RA.out HAt.out (by decide) OA.out app4).led, by rw [HPre.out]; exact own4⟩
                              case measure => simp [intOf]; omega
                            · obtain rfl : k = l.locs.length := by omega
                              rw [List.take_length] at own
                              have HB2 : Hid ((pre ++ l.locs.flatMap encP).length ≤ 264000064) := by
                                have h1 := flat_size encP 24 l.locs (fun x _ => by unfold encP; rw [encs_len]; exact Nat.le_refl _)
                                have h2 := HB.out
                                have h3 : l.locs.length ≤ 1000000 := by omega
                                have h4 : 24 * l.locs.length ≤ 24 * 1000000 := Nat.mul_le_mul_left _ h3
                                unfold Hid
                                rw [List.length_append]
                                omega
                              have HE : Hid (q = (pre ++ l.locs.flatMap encP, 0)) := by unfold Hid; rw [HQ.out, HP0.out]
                              have HO := Lib.hid own
                              clear own HB HB2 HP0 HQ
                              go_wp2_with fail
                              go_ret2
                              rw [HE.out]
                              exact ⟨_, rfl, HO.out, X.low⟩
end Go.Proofs.YtocjfjikkdpfdaaGreatDoor.ImgW
namespace Go.Proofs.YtocjfjikkdpfdaaGreatDoor.ImgW
open Go.RowKit Go.Proofs.YtocjfjikkdpfdaaGreatDoor.Bas Go.Proofs.YtocjfjikkdpfdaaGreatDoor.LedM Go.Proofs.YtocjfjikkdpfdaaGreatDoor.LedW

structure EvR where
  kind : Int
  acct : Int
  id : Int
  new : Int
  instr : Int
  under : Int
  cur : Int
  qty : Int
  price : Int
  amount : Int
  call : Bool
  name : List UInt8
deriving DecidableEq
def evV (x : EvR) : Value := .agg #[.int .i64 x.kind, .int .i64 x.acct, .int .i64 x.id, .int .i64 x.new, .int .i64 x.instr, .int .i64 x.under, .int .i64 x.cur, .int .i64 x.qty, .int .i64 x.price, .int .i64 x.amount, .bool x.call, .string ⟨x.name.toArray⟩]
def encE (x : EvR) : List UInt8 := encs [x.kind, x.acct, x.id, x.new, x.instr, x.under, x.cur, x.qty, x.price, x.amount, bitF x.call] ++ encT x.name
/-- an event's bytes, or what is wrong with it -/
def eventF (x : EvR) : List UInt8 × Int := if x.kind < 1 ∨ 16 < x.kind then ([], 44) else if 8 < x.name.length then ([], 42) else (encE x, 0)
theorem encE_two (x : EvR) : encs [x.kind, x.acct, x.id, x.new, x.instr, x.under, x.cur, x.qty, x.price, x.amount, bitF x.call, (x.name.length : Int)] ++ x.name = encE x := by
  unfold encE encT encs
  simp

set_option maxHeartbeats 4000000 in
set_option maxRecDepth 100000 in
theorem event_calls (x : EvR) (w : World) (hn : x.name.length ≤ 140737488351232) :
    Calls Tryz.prog 9 #[evV x] w fun e w' => ∃ o, e = .returned (.tuple #[o, .int .i64 (eventF x).2]) ∧ w'.ownsRow (w.heap.size + 1) 5 1 o (eventF x).1.length (u8s (eventF x).1) ∧ Below w.heap.size w w' := by
  have X := Box.new w 33 #[.int .i64 x.kind, .int .i64 x.acct, .int .i64 x.id, .int .i64 x.new, .int .i64 x.instr, .int .i64 x.under, .int .i64 x.cur, .int .i64 x.qty, .int .i64 x.price, .int .i64 x.amount, .bool x.call, .string ⟨x.name.toArray⟩]
  have L := (Below.refl w.heap.size w).alloc (Nat.le_refl _) (.cells #[.int .i64 x.kind, .int .i64 x.acct, .int .i64 x.id, .int .i64 x.new, .int .i64 x.instr, .int .i64 x.under, .int .i64 x.cur, .int .i64 x.qty, .int .i64 x.price, .int .i64 x.amount, .bool x.call, .string ⟨x.name.toArray⟩] 33)
  have HI : Hid (eventF x = if x.kind < 1 ∨ 16 < x.kind then ([], 44) else if 8 < x.name.length then ([], 42) else (encE x, 0)) := rfl
  have hst := str_size x.name
  have hz : w.heap.size + 1 ≤ (w.alloc (.cells #[.int .i64 x.kind, .int .i64 x.acct, .int .i64 x.id, .int .i64 x.new, .int .i64 x.instr, .int .i64 x.under, .int .i64 x.cur, .int .i64 x.qty, .int .i64 x.price, .int .i64 x.amount, .bool x.call, .string ⟨x.name.toArray⟩] 33)).heap.size := by rw [World.size_alloc]; exact Nat.le_refl _
  unfold evV
  generalize eventF x = q at HI ⊢
  go_enter Tryz.func9, Tryz.ntmps9
  go_upto_region 1 with fail
  generalize w.alloc (.cells #[.int .i64 x.kind, .int .i64 x.acct, .int .i64 x.id, .int .i64 x.new, .int .i64 x.instr, .int .i64 x.under, .int .i64 x.cur, .int .i64 x.qty, .int .i64 x.price, .int .i64 x.amount, .bool x.call, .string ⟨x.name.toArray⟩] 33) = w0 at *
  have HX := Lib.hid X
  have HL := Lib.hid L
  clear X L
  have c0 : w0.cell? ⟨w.heap.size, 0, none⟩ = some (.int .i64 x.kind) := HX.out.cell 0
  have c11 : w0.cell? ⟨w.heap.size, 11, none⟩ = some (.string ⟨x.name.toArray⟩) := HX.out.cell 11
  by_cases h1 : x.kind < 1
  · have HQ : Hid (q = ([], 44)) := by unfold Hid; rw [HI.out, if_pos (.inl h1)]
    clear HI
    go_wp2_with fail
    go_ret2
    rw [HQ.out]
    exact ⟨_, rfl, World.ownsRow_nil _ _ _ _, HL.out⟩
  by_cases h2 : 16 < x.kind
  · have HQ : Hid (q = ([], 44)) := by unfold Hid; rw [HI.out, if_pos (.inr h2)]
    clear HI
    go_wp2_with fail
    go_ret2
    rw [HQ.out]
    exact ⟨_, rfl, World.ownsRow_nil _ _ _ _, HL.out⟩
  by_cases h3 : 8 < x.name.length
  · have HQ : Hid (q = ([], 42)) := by unfold Hid; rw [HI.out, if_neg (by omega), if_pos h3]
    have h4 : 8 < (⟨x.name.toArray⟩ : ByteArray).size := by omega
    clear HI
    go_wp2_with fail
    go_ret2
    rw [HQ.out]
    exact ⟨_, rfl, World.ownsRow_nil _ _ _ _, HL.out⟩
  have HQ : Hid (q = (encE x, 0)) := by unfold Hid; rw [HI.out, if_neg (by omega), if_neg h3]
  have h4 : (⟨x.name.toArray⟩ : ByteArray).size ≤ 8 := by omega
  clear HI
  go_upto_region 5 with fail
  clear c0 c11
  have ON := Lib.hid (World.ownsRow_nil w0 (w.heap.size + 1) 5 1)
  refine stage_region 25 (fun W => W.cell? ⟨w.heap.size, 0, none⟩ = some (.int .i64 x.kind) ∧ W.cell? ⟨w.heap.size, 1, none⟩ = some (.int .i64 x.acct) ∧ W.cell? ⟨w.heap.size, 2, none⟩ = some (.int .i64 x.id) ∧ W.cell? ⟨w.heap.size, 3, none⟩ = some (.int .i64 x.new) ∧ W.cell? ⟨w.heap.size, 4, none⟩ = some (.int .i64 x.instr) ∧ W.cell? ⟨w.heap.size, 5, none⟩ = some (.int .i64 x.under) ∧ W.cell? ⟨w.heap.size, 6, none⟩ = some (.int .i64 x.cur) ∧ W.cell? ⟨w.heap.size, 7, none⟩ = some (.int .i64 x.qty) ∧ W.cell? ⟨w.heap.size, 8, none⟩ = some (.int .i64 x.price) ∧ W.cell? ⟨w.heap.size, 9, none⟩ = some (.int .i64 x.amount) ∧ W.cell? ⟨w.heap.size, 10, none⟩ = some (.bool x.call) ∧ W.cell? ⟨w.heap.size, 11, none⟩ = some (.string ⟨x.name.toArray⟩) ∧ Box W w.heap.size 33 #[.int .i64 x.kind, .int .i64 x.acct, .int .i64 x.id, .int .i64 x.new, .int .i64 x.instr, .int .i64 x.under, .int .i64 x.cur, .int .i64 x.qty, .int .i64 x.price, .int .i64 x.amount, .bool x.call, .string ⟨x.name.toArray⟩]) (by kernel_rfl) ?_
  have HS := box_drew HX.out
  refine' stage_take (i := 0) _ rfl (by kernel_rfl) (by kernel_rfl) (by kernel_rfl) (by kernel_rfl) (fun _ _ _ h => h) ⟨Box.cell HS 0, Box.cell HS 1, Box.cell HS 2, Box.cell HS 3, Box.cell HS 4, Box.cell HS 5, Box.cell HS 6, Box.cell HS 7, Box.cell HS 8, Box.cell HS 9, Box.cell HS 10, Box.cell HS 11, HS⟩ _ (fun W hW => _) _
  rotate_left
  focus (go_simp; done)
  focus (obtain ⟨k1, k2, k3, k4, k5, k6, k7, k8, k9, k10, k11, k12, X9⟩ := hW; go_simp; first | done | (with_reducible rfl))
  simp only [Act.put, List.setIfInBounds_toArray, List.set_cons_zero, List.set_cons_succ]
  refine' stage_take (i := 1) _ rfl (by kernel_rfl) (by kernel_rfl) (by kernel_rfl) (by kernel_rfl) (fun _ _ _ h => h) ⟨Box.cell HS 0, Box.cell HS 1, Box.cell HS 2, Box.cell HS 3, Box.cell HS 4, Box.cell HS 5, Box.cell HS 6, Box.cell HS 7, Box.cell HS 8, Box.cell HS 9, Box.cell HS 10, Box.cell HS 11, HS⟩ _ (fun W hW => _) _
  rotate_left
  focus (go_simp; done)
  focus (obtain ⟨k1, k2, k3, k4, k5, k6, k7, k8, k9, k10, k11, k12, X9⟩ := hW; go_simp; first | done | (with_reducible rfl))
  simp only [Act.put, List.setIfInBounds_toArray, List.set_cons_zero, List.set_cons_succ]
  refine' stage_take (i := 2) _ rfl (by kernel_rfl) (by kernel_rfl) (by kernel_rfl) (by kernel_rfl) (fun _ _ _ h => h) ⟨Box.cell HS 0, Box.cell HS 1, Box.cell HS 2, Box.cell HS 3, Box.cell HS 4, Box.cell HS 5, Box.cell HS 6, Box.cell HS 7, Box.cell HS 8, Box.cell HS 9, Box.cell HS 10, Box.cell HS 11, HS⟩ _ (fun W hW => _) _
  rotate_left
  focus (go_simp; done)
  focus (obtain ⟨k1, k2, k3, k4, k5, k6, k7, k8, k9, k10, k11, k12, X9⟩ := hW; go_simp; first | done | (with_reducible rfl))
  simp only [Act.put, List.setIfInBounds_toArray, List.set_cons_zero, List.set_cons_succ]
  refine' stage_take (i := 3) _ rfl (by kernel_rfl) (by kernel_rfl) (by kernel_rfl) (by kernel_rfl) (fun _ _ _ h => h) ⟨Box.cell HS 0, Box.cell HS 1, Box.cell HS 2, Box.cell HS 3, Box.cell HS 4, Box.cell HS 5, Box.cell HS 6, Box.cell HS 7, Box.cell HS 8, Box.cell HS 9, Box.cell HS 10, Box.cell HS 11, HS⟩ _ (fun W hW => _) _
  rotate_left
  focus (go_simp; done)
  focus (obtain ⟨k1, k2, k3, k4, k5, k6, k7, k8, k9, k10, k11, k12, X9⟩ := hW; go_simp; first | done | (with_reducible rfl))
  simp only [Act.put, List.setIfInBounds_toArray, List.set_cons_zero, List.set_cons_succ]
  refine' stage_take (i := 4) _ rfl (by kernel_rfl) (by kernel_rfl) (by kernel_rfl) (by kernel_rfl) (fun _ _ _ h => h) ⟨Box.cell HS 0, Box.cell HS 1, Box.cell HS 2, Box.cell HS 3, Box.cell HS 4, Box.cell HS 5, Box.cell HS 6, Box.cell HS 7, Box.cell HS 8, Box.cell HS 9, Box.cell HS 10, Box.cell HS 11, HS⟩ _ (fun W hW => _) _
  rotate_left
  focus (go_simp; done)
  focus (obtain ⟨k1, k2, k3, k4, k5, k6, k7, k8, k9, k10, k11, k12, X9⟩ := hW; go_simp; first | done | (with_reducible rfl))
  simp only [Act.put, List.setIfInBounds_toArray, List.set_cons_zero, List.set_cons_succ]
  refine' stage_take (i := 5) _ rfl (by kernel_rfl) (by kernel_rfl) (by kernel_rfl) (by kernel_rfl) (fun _ _ _ h => h) ⟨Box.cell HS 0, Box.cell HS 1, Box.cell HS 2, Box.cell HS 3, Box.cell HS 4, Box.cell HS 5, Box.cell HS 6, Box.cell HS 7, Box.cell HS 8, Box.cell HS 9, Box.cell HS 10, Box.cell HS 11, HS⟩ _ (fun W hW => _) _
  rotate_left
  focus (go_simp; done)
  focus (obtain ⟨k1, k2, k3, k4, k5, k6, k7, k8, k9, k10, k11, k12, X9⟩ := hW; go_simp; first | done | (with_reducible rfl))
  simp only [Act.put, List.setIfInBounds_toArray, List.set_cons_zero, List.set_cons_succ]
  refine' stage_take (i := 6) _ rfl (by kernel_rfl) (by kernel_rfl) (by kernel_rfl) (by kernel_rfl) (fun _ _ _ h => h) ⟨Box.cell HS 0, Box.cell HS 1, Box.cell HS 2, Box.cell HS 3, Box.cell HS 4, Box.cell HS 5, Box.cell HS 6, Box.cell HS 7, Box.cell HS 8, Box.cell HS 9, Box.cell HS 10, Box.cell HS 11, HS⟩ _ (fun W hW => _) _
  rotate_left
  focus (go_simp; done)
  focus (obtain ⟨k1, k2, k3, k4, k5, k6, k7, k8, k9, k10, k11, k12, X9⟩ := hW; go_simp; first | done | (with_reducible rfl))
  simp only [Act.put, List.setIfInBounds_toArray, List.set_cons_zero, List.set_cons_succ]
  refine' stage_take (i := 7) _ rfl (by kernel_rfl) (by kernel_rfl) (by kernel_rfl) (by kernel_rfl) (fun _ _ _ h => h) ⟨Box.cell HS 0, Box.cell HS 1, Box.cell HS 2, Box.cell HS 3, Box.cell HS 4, Box.cell HS 5, Box.cell HS 6, Box.cell HS 7, Box.cell HS 8, Box.cell HS 9, Box.cell HS 10, Box.cell HS 11, HS⟩ _ (fun W hW => _) _
  rotate_left
  focus (go_simp; done)
  focus (obtain ⟨k1, k2, k3, k4, k5, k6, k7, k8, k9, k10, k11, k12, X9⟩ := hW; go_simp; first | done | (with_reducible rfl))
  simp only [Act.put, List.setIfInBounds_toArray, List.set_cons_zero, List.set_cons_succ]
  refine' stage_take (i := 8) _ rfl (by kernel_rfl) (by kernel_rfl) (by kernel_rfl) (by kernel_rfl) (fun _ _ _ h => h) ⟨Box.cell HS 0, Box.cell HS 1, Box.cell HS 2, Box.cell HS 3, Box.cell HS 4, Box.cell HS 5, Box.cell HS 6, Box.cell HS 7, Box.cell HS 8, Box.cell HS 9, Box.cell HS 10, Box.cell HS 11, HS⟩ _ (fun W hW => _) _
  rotate_left
  focus (go_simp; done)
  focus (obtain ⟨k1, k2, k3, k4, k5, k6, k7, k8, k9, k10, k11, k12, X9⟩ := hW; go_simp; first | done | (with_reducible rfl))
  simp only [Act.put, List.setIfInBounds_toArray, List.set_cons_zero, List.set_cons_succ]
  refine' stage_take (i := 9) _ rfl (by kernel_rfl) (by kernel_rfl) (by kernel_rfl) (by kernel_rfl) (fun _ _ _ h => h) ⟨Box.cell HS 0, Box.cell HS 1, Box.cell HS 2, Box.cell HS 3, Box.cell HS 4, Box.cell HS 5, Box.cell HS 6, Box.cell HS 7, Box.cell HS 8, Box.cell HS 9, Box.cell HS 10, Box.cell HS 11, HS⟩ _ (fun W hW => _) _
  rotate_left
  focus (go_simp; done)
  focus (obtain ⟨k1, k2, k3, k4, k5, k6, k7, k8, k9, k10, k11, k12, X9⟩ := hW; go_simp; first | done | (with_reducible rfl))
  simp only [Act.put, List.setIfInBounds_toArray, List.set_cons_zero, List.set_cons_succ]
  refine' stage_take (i := 10) _ rfl (by kernel_rfl) (by kernel_rfl) (by kernel_rfl) (by kernel_rfl) (fun _ _ _ h => h) ⟨Box.cell HS 0, Box.cell HS 1, Box.cell HS 2, Box.cell HS 3, Box.cell HS 4, Box.cell HS 5, Box.cell HS 6, Box.cell HS 7, Box.cell HS 8, Box.cell HS 9, Box.cell HS 10, Box.cell HS 11, HS⟩ _ (fun W hW => _) _
  rotate_left
  focus (go_simp; done)
  focus (obtain ⟨k1, k2, k3, k4, k5, k6, k7, k8, k9, k10, k11, k12, X9⟩ := hW; go_simp; first | done | (with_reducible rfl))
  simp only [Act.put, List.setIfInBounds_toArray, List.set_cons_zero, List.set_cons_succ]
  refine' stage_take (i := 11) _ rfl (by kernel_rfl) (by kernel_rfl) (by kernel_rfl) (by kernel_rfl) (fun _ _ _ h => h) ⟨Box.cell HS 0, Box.cell HS 1, Box.cell HS 2, Box.cell HS 3, Box.cell HS 4, Box.cell HS 5, Box.cell HS 6, Box.cell HS 7, Box.cell HS 8, Box.cell HS 9, Box.cell HS 10, Box.cell HS 11, HS⟩ _ (fun W hW => _) _
  rotate_left
  focus (go_simp; done)
  focus (obtain ⟨k1, k2, k3, k4, k5, k6, k7, k8, k9, k10, k11, k12, X9⟩ := hW; go_simp; first | done | (with_reducible rfl))
  simp only [Act.put, List.setIfInBounds_toArray, List.set_cons_zero, List.set_cons_succ]
  refine' stage_take (i := 12) _ rfl (by kernel_rfl) (by kernel_rfl) (by kernel_rfl) (by kernel_rfl) (fun _ _ _ h => h) ⟨Box.cell HS 0, Box.cell HS 1, Box.cell HS 2, Box.cell HS 3, Box.cell HS 4, Box.cell HS 5, Box.cell HS 6, Box.cell HS 7, Box.cell HS 8, Box.cell HS 9, Box.cell HS 10, Box.cell HS 11, HS⟩ _ (fun W hW => _) _
  rotate_left
  focus (go_simp; done)
  focus (obtain ⟨k1, k2, k3, k4, k5, k6, k7, k8, k9, k10, k11, k12, X9⟩ := hW; go_simp; first | done | (with_reducible rfl))
  simp only [Act.put, List.setIfInBounds_toArray, List.set_cons_zero, List.set_cons_succ]
  refine' stage_take (i := 13) _ rfl (by kernel_rfl) (by kernel_rfl) (by kernel_rfl) (by kernel_rfl) (fun _ _ _ h => h) ⟨Box.cell HS 0, Box.cell HS 1, Box.cell HS 2, Box.cell HS 3, Box.cell HS 4, Box.cell HS 5, Box.cell HS 6, Box.cell HS 7, Box.cell HS 8, Box.cell HS 9, Box.cell HS 10, Box.cell HS 11, HS⟩ _ (fun W hW => _) _
  rotate_left
  focus (go_simp; done)
  focus (obtain ⟨k1, k2, k3, k4, k5, k6, k7, k8, k9, k10, k11, k12, X9⟩ := hW; go_simp; first | done | (with_reducible rfl))
  simp only [Act.put, List.setIfInBounds_toArray, List.set_cons_zero, List.set_cons_succ]
  refine' stage_take (i := 14) _ rfl (by kernel_rfl) (by kernel_rfl) (by kernel_rfl) (by kernel_rfl) (fun _ _ _ h => h) ⟨Box.cell HS 0, Box.cell HS 1, Box.cell HS 2, Box.cell HS 3, Box.cell HS 4, Box.cell HS 5, Box.cell HS 6, Box.cell HS 7, Box.cell HS 8, Box.cell HS 9, Box.cell HS 10, Box.cell HS 11, HS⟩ _ (fun W hW => _) _
  rotate_left
  focus (go_simp; done)
  focus (obtain ⟨k1, k2, k3, k4, k5, k6, k7, k8, k9, k10, k11, k12, X9⟩ := hW; go_simp; first | done | (with_reducible rfl))
  simp only [Act.put, List.setIfInBounds_toArray, List.set_cons_zero, List.set_cons_succ]
  refine' stage_take (i := 15) _ rfl (by kernel_rfl) (by kernel_rfl) (by kernel_rfl) (by kernel_rfl) (fun _ _ _ h => h) ⟨Box.cell HS 0, Box.cell HS 1, Box.cell HS 2, Box.cell HS 3, Box.cell HS 4, Box.cell HS 5, Box.cell HS 6, Box.cell HS 7, Box.cell HS 8, Box.cell HS 9, Box.cell HS 10, Box.cell HS 11, HS⟩ _ (fun W hW => _) _
  rotate_left
  focus (go_simp; done)
  focus (obtain ⟨k1, k2, k3, k4, k5, k6, k7, k8, k9, k10, k11, k12, X9⟩ := hW; go_simp; first | done | (with_reducible rfl))
  simp only [Act.put, List.setIfInBounds_toArray, List.set_cons_zero, List.set_cons_succ]
  refine' stage_take (i := 16) _ rfl (by kernel_rfl) (by kernel_rfl) (by kernel_rfl) (by kernel_rfl) (fun _ _ _ h => h) ⟨Box.cell HS 0, Box.cell HS 1, Box.cell HS 2, Box.cell HS 3, Box.cell HS 4, Box.cell HS 5, Box.cell HS 6, Box.cell HS 7, Box.cell HS 8, Box.cell HS 9, Box.cell HS 10, Box.cell HS 11, HS⟩ _ (fun W hW => _) _
  rotate_left
  focus (go_simp; done)
  focus (obtain ⟨k1, k2, k3, k4, k5, k6, k7, k8, k9, k10, k11, k12, X9⟩ := hW; go_simp; first | done | (with_reducible rfl))
  simp only [Act.put, List.setIfInBounds_toArray, List.set_cons_zero, List.set_cons_succ]
  refine' stage_take (i := 17) _ rfl (by kernel_rfl) (by kernel_rfl) (by kernel_rfl) (by kernel_rfl) (fun _ _ _ h => h) ⟨Box.cell HS 0, Box.cell HS 1, Box.cell HS 2, Box.cell HS 3, Box.cell HS 4, Box.cell HS 5, Box.cell HS 6, Box.cell HS 7, Box.cell HS 8, Box.cell HS 9, Box.cell HS 10, Box.cell HS 11, HS⟩ _ (fun W hW => _) _
  rotate_left
  focus (go_simp; done)
  focus (obtain ⟨k1, k2, k3, k4, k5, k6, k7, k8, k9, k10, k11, k12, X9⟩ := hW; go_simp; first | done | (with_reducible rfl))
  simp only [Act.put, List.setIfInBounds_toArray, List.set_cons_zero, List.set_cons_succ]
  refine' stage_take (i := 18) _ rfl (by kernel_rfl) (by kernel_rfl) (by kernel_rfl) (by kernel_rfl) (fun _ _ _ h => h) ⟨Box.cell HS 0, Box.cell HS 1, Box.cell HS 2, Box.cell HS 3, Box.cell HS 4, Box.cell HS 5, Box.cell HS 6, Box.cell HS 7, Box.cell HS 8, Box.cell HS 9, Box.cell HS 10, Box.cell HS 11, HS⟩ _ (fun W hW => _) _
  rotate_left
  focus (go_simp; done)
  focus (obtain ⟨k1, k2, k3, k4, k5, k6, k7, k8, k9, k10, k11, k12, X9⟩ := hW; go_simp; first | done | (with_reducible rfl))
  simp only [Act.put, List.setIfInBounds_toArray, List.set_cons_zero, List.set_cons_succ]
  refine' stage_take (i := 19) _ rfl (by kernel_rfl) (by kernel_rfl) (by kernel_rfl) (by kernel_rfl) (fun _ _ _ h => h) ⟨Box.cell HS 0, Box.cell HS 1, Box.cell HS 2, Box.cell HS 3, Box.cell HS 4, Box.cell HS 5, Box.cell HS 6, Box.cell HS 7, Box.cell HS 8, Box.cell HS 9, Box.cell HS 10, Box.cell HS 11, HS⟩ _ (fun W hW => _) _
  rotate_left
  focus (go_simp; done)
  focus (obtain ⟨k1, k2, k3, k4, k5, k6, k7, k8, k9, k10, k11, k12, X9⟩ := hW; go_simp; first | done | (with_reducible rfl))
  simp only [Act.put, List.setIfInBounds_toArray, List.set_cons_zero, List.set_cons_succ]
  refine' stage_take (i := 20) _ rfl (by kernel_rfl) (by kernel_rfl) (by kernel_rfl) (by kernel_rfl) (fun _ _ _ h => h) ⟨Box.cell HS 0, Box.cell HS 1, Box.cell HS 2, Box.cell HS 3, Box.cell HS 4, Box.cell HS 5, Box.cell HS 6, Box.cell HS 7, Box.cell HS 8, Box.cell HS 9, Box.cell HS 10, Box.cell HS 11, HS⟩ _ (fun W hW => _) _
  rotate_left
  focus (go_simp; done)
  focus (obtain ⟨k1, k2, k3, k4, k5, k6, k7, k8, k9, k10, k11, k12, X9⟩ := hW; go_simp; first | done | (with_reducible rfl))
  simp only [Act.put, List.setIfInBounds_toArray, List.set_cons_zero, List.set_cons_succ]
  refine' stage_take (i := 21) _ rfl (by kernel_rfl) (by kernel_rfl) (by kernel_rfl) (by kernel_rfl) (fun _ _ _ h => h) ⟨Box.cell HS 0, Box.cell HS 1, Box.cell HS 2, Box.cell HS 3, Box.cell HS 4, Box.cell HS 5, Box.cell HS 6, Box.cell HS 7, Box.cell HS 8, Box.cell HS 9, Box.cell HS 10, Box.cell HS 11, HS⟩ _ (fun W hW => _) _
  rotate_left
  focus (go_simp; done)
  focus (obtain ⟨k1, k2, k3, k4, k5, k6, k7, k8, k9, k10, k11, k12, X9⟩ := hW; go_simp; first | done | (with_reducible rfl))
  simp only [Act.put, List.setIfInBounds_toArray, List.set_cons_zero, List.set_cons_succ]
  refine stage_only (i := 22) rfl (by kernel_rfl) ?_ (fun K hK => ?_)
  focus (go_simp; done)
  go_simp
  go_at_call 22
  refine (bit_calls x.call _).mono ?_
  rintro e w4 ⟨rfl, rfl⟩
  go_simp
  replace HS := HS
  refine hK.out _ _ (fun _ => ⟨Box.cell HS 0, Box.cell HS 1, Box.cell HS 2, Box.cell HS 3, Box.cell HS 4, Box.cell HS 5, Box.cell HS 6, Box.cell HS 7, Box.cell HS 8, Box.cell HS 9, Box.cell HS 10, Box.cell HS 11, HS⟩) ?_
  clear hK K
  try simp only [Act.put, List.setIfInBounds_toArray, List.set_cons_zero, List.set_cons_succ]
  refine stage_only (i := 23) rfl (by kernel_rfl) ?_ (fun K hK => ?_)
  focus (go_simp; done)
  go_simp
  replace HS := Box.alloc HS (.cells #[.int .i64 x.kind, .int .i64 x.acct, .int .i64 x.id, .int .i64 x.new, .int .i64 x.instr, .int .i64 x.under, .int .i64 x.cur, .int .i64 x.qty, .int .i64 x.price, .int .i64 x.amount, .int .i64 (bitF x.call)] 3)
  refine hK.out _ _ (fun _ => ⟨Box.cell HS 0, Box.cell HS 1, Box.cell HS 2, Box.cell HS 3, Box.cell HS 4, Box.cell HS 5, Box.cell HS 6, Box.cell HS 7, Box.cell HS 8, Box.cell HS 9, Box.cell HS 10, Box.cell HS 11, HS⟩) ?_
  clear hK K
  try simp only [Act.put, List.setIfInBounds_toArray, List.set_cons_zero, List.set_cons_succ]
  refine stage_only (i := 24) rfl (by kernel_rfl) ?_ (fun K hK => ?_)
  focus (go_simp; done)
  go_simp
  go_at_call 20
  refine (num_step (A := w0.drew) (bs := []) (own_drew ON.out) hz [x.kind, x.acct, x.id, x.new, x.instr, x.under, x.cur, x.qty, x.price, x.amount, bitF x.call] (by simp) #[.int .i64 x.kind, .int .i64 x.acct, .int .i64 x.id, .int .i64 x.new, .int .i64 x.instr, .int .i64 x.under, .int .i64 x.cur, .int .i64 x.qty, .int .i64 x.price, .int .i64 x.amount, .int .i64 (bitF x.call)] rfl 11 rfl).mono ?_
  rintro e w5 ⟨o5, rfl, own5, app5⟩
  go_simp
  replace HS := box_grown (box_drew HX.out) (own_drew ON.out) (by decide) app5.grown
  refine hK.out _ _ (fun _ => ⟨Box.cell HS 0, Box.cell HS 1, Box.cell HS 2, Box.cell HS 3, Box.cell HS 4, Box.cell HS 5, Box.cell HS 6, Box.cell HS 7, Box.cell HS 8, Box.cell HS 9, Box.cell HS 10, Box.cell HS 11, HS⟩) ?_
  clear hK K
  try simp only [Act.put, List.setIfInBounds_toArray, List.set_cons_zero, List.set_cons_succ]
  refine stage_only (i := 25) rfl (by kernel_rfl) ?_ (fun K hK => ?_)
  focus (go_simp; done)
  go_simp
  refine hK.out _ _ (fun h => absurd h (by decide)) ?_
  clear hK K
  try simp only [Act.put, List.setIfInBounds_toArray, List.set_cons_zero, List.set_cons_succ]
  refine stage_end (by kernel_rfl) ?_
  rw [List.nil_append] at own5
  have hz5 := app5.grown.size
  have low5 : Below w.heap.size w w5 := HL.out.drew.trans (app5.low (show w.heap.size ≤ w0.drew.heap.size from HL.out.size) (fun g hg => by simp [Value.ownBlock] at hg))
  have HZ5 : w.heap.size + 1 ≤ w5.heap.size := Nat.le_trans hz hz5
  have CT := Lib.hid (text_calls (w.heap.size + 1) o5 (encs [x.kind, x.acct, x.id, x.new, x.instr, x.under, x.cur, x.qty, x.price, x.amount, bitF x.call]) x.name w5 own5 HZ5 (by rw [encs_len]; simp only [List.length_cons, List.length_nil]; omega))
  have e11 : w5.cell? ⟨w.heap.size, 11, none⟩ = some (.string ⟨x.name.toArray⟩) := Box.cell HS 11
  have HL5 := Lib.hid low5
  have HO5 := Lib.hid own5
  clear HS low5 own5 app5 ON
  go_wp2_with (go_at_call 21; refine CT.out.mono ?_; rintro e w6 ⟨o6, rfl, own6, app6⟩)
  go_ret2
  rw [HQ.out]
  exact ⟨_, rfl, own6, HL5.out.trans (app6.low HL5.out.size (fun g hg => by have := (HO5.out.lt g hg).1; omega))⟩

set_option maxHeartbeats 4000000 in
set_option maxRecDepth 100000 in
theorem revent_calls (x : EvR) (w : World) (hn : x.name.length ≤ 140737488351232) :
    Calls Tryz.prog 13 #[evV x] w fun e w' => ∃ o, e = .returned (.tuple #[o, .int .i64 (eventF x).2]) ∧ w'.ownsRow (w.heap.size + 1) 5 1 o (eventF x).1.length (u8s (eventF x).1) ∧ Below w.heap.size w w' := by
  have X := Box.new w 33 #[.int .i64 x.kind, .int .i64 x.acct, .int .i64 x.id, .int .i64 x.new, .int .i64 x.instr, .int .i64 x.under, .int .i64 x.cur, .int .i64 x.qty, .int .i64 x.price, .int .i64 x.amount, .bool x.call, .string ⟨x.name.toArray⟩]
  have L := (Below.refl w.heap.size w).alloc (Nat.le_refl _) (.cells #[.int .i64 x.kind, .int .i64 x.acct, .int .i64 x.id, .int .i64 x.new, .int .i64 x.instr, .int .i64 x.under, .int .i64 x.cur, .int .i64 x.qty, .int .i64 x.price, .int .i64 x.amount, .bool x.call, .string ⟨x.name.toArray⟩] 33)
  have HI : Hid (eventF x = if x.kind < 1 ∨ 16 < x.kind then ([], 44) else if 8 < x.name.length then ([], 42) else (encE x, 0)) := rfl
  have hst := str_size x.name
  have hz : w.heap.size + 1 ≤ (w.alloc (.cells #[.int .i64 x.kind, .int .i64 x.acct, .int .i64 x.id, .int .i64 x.new, .int .i64 x.instr, .int .i64 x.under, .int .i64 x.cur, .int .i64 x.qty, .int .i64 x.price, .int .i64 x.amount, .bool x.call, .string ⟨x.name.toArray⟩] 33)).heap.size := by rw [World.size_alloc]; exact Nat.le_refl _
  unfold evV
  generalize eventF x = q at HI ⊢
  go_enter Tryz.func13, Tryz.ntmps13
  go_upto_region 1 with fail
  generalize w.alloc (.cells #[.int .i64 x.kind, .int .i64 x.acct, .int .i64 x.id, .int .i64 x.new, .int .i64 x.instr, .int .i64 x.under, .int .i64 x.cur, .int .i64 x.qty, .int .i64 x.price, .int .i64 x.amount, .bool x.call, .string ⟨x.name.toArray⟩] 33) = w0 at *
  have HX := Lib.hid X
  have HL := Lib.hid L
  clear X L
  have c0 : w0.cell? ⟨w.heap.size, 0, none⟩ = some (.int .i64 x.kind) := HX.out.cell 0
  have c11 : w0.cell? ⟨w.heap.size, 11, none⟩ = some (.string ⟨x.name.toArray⟩) := HX.out.cell 11
  by_cases h1 : x.kind < 1
  · have HQ : Hid (q = ([], 44)) := by unfold Hid; rw [HI.out, if_pos (.inl h1)]
    clear HI
    go_wp2_with fail
    go_ret2
    rw [HQ.out]
    exact ⟨_, rfl, World.ownsRow_nil _ _ _ _, HL.out⟩
  by_cases h2 : 16 < x.kind
  · have HQ : Hid (q = ([], 44)) := by unfold Hid; rw [HI.out, if_pos (.inr h2)]
    clear HI
    go_wp2_with fail
    go_ret2
    rw [HQ.out]
    exact ⟨_, rfl, World.ownsRow_nil _ _ _ _, HL.out⟩
  by_cases h3 : 8 < x.name.length
  · have HQ : Hid (q = ([], 42)) := by unfold Hid; rw [HI.out, if_neg (by omega), if_pos h3]
    have h4 : 8 < (⟨x.name.toArray⟩ : ByteArray).size := by omega
    clear HI
    go_wp2_with fail
    go_ret2
    rw [HQ.out]
    exact ⟨_, rfl, World.ownsRow_nil _ _ _ _, HL.out⟩
  have HQ : Hid (q = (encE x, 0)) := by unfold Hid; rw [HI.out, if_neg (by omega), if_neg h3]
  have h4 : (⟨x.name.toArray⟩ : ByteArray).size ≤ 8 := by omega
  clear HI
  go_upto_region 5 with fail
  clear c0 c11
  have ON := Lib.hid (World.ownsRow_nil w0 (w.heap.size + 1) 5 1)
  refine stage_region 28 (fun W => W.cell? ⟨w.heap.size, 0, none⟩ = some (.int .i64 x.kind) ∧ W.cell? ⟨w.heap.size, 1, none⟩ = some (.int .i64 x.acct) ∧ W.cell? ⟨w.heap.size, 2, none⟩ = some (.int .i64 x.id) ∧ W.cell? ⟨w.heap.size, 3, none⟩ = some (.int .i64 x.new) ∧ W.cell? ⟨w.heap.size, 4, none⟩ = some (.int .i64 x.instr) ∧ W.cell? ⟨w.heap.size, 5, none⟩ = some (.int .i64 x.under) ∧ W.cell? ⟨w.heap.size, 6, none⟩ = some (.int .i64 x.cur) ∧ W.cell? ⟨w.heap.size, 7, none⟩ = some (.int .i64 x.qty) ∧ W.cell? ⟨w.heap.size, 8, none⟩ = some (.int .i64 x.price) ∧ W.cell? ⟨w.heap.size, 9, none⟩ = some (.int .i64 x.amount) ∧ W.cell? ⟨w.heap.size, 10, none⟩ = some (.bool x.call) ∧ W.cell? ⟨w.heap.size, 11, none⟩ = some (.string ⟨x.name.toArray⟩) ∧ Box W w.heap.size 33 #[.int .i64 x.kind, .int .i64 x.acct, .int .i64 x.id, .int .i64 x.new, .int .i64 x.instr, .int .i64 x.under, .int .i64 x.cur, .int .i64 x.qty, .int .i64 x.price, .int .i64 x.amount, .bool x.call, .string ⟨x.name.toArray⟩]) (by kernel_rfl) ?_
  have HS := box_drew HX.out
  refine' stage_take (i := 0) _ rfl (by kernel_rfl) (by kernel_rfl) (by kernel_rfl) (by kernel_rfl) (fun _ _ _ h => h) ⟨Box.cell HS 0, Box.cell HS 1, Box.cell HS 2, Box.cell HS 3, Box.cell HS 4, Box.cell HS 5, Box.cell HS 6, Box.cell HS 7, Box.cell HS 8, Box.cell HS 9, Box.cell HS 10, Box.cell HS 11, HS⟩ _ (fun W hW => _) _
  rotate_left
  focus (go_simp; done)
  focus (obtain ⟨k1, k2, k3, k4, k5, k6, k7, k8, k9, k10, k11, k12, X9⟩ := hW; go_simp; first | done | (with_reducible rfl))
  simp only [Act.put, List.setIfInBounds_toArray, List.set_cons_zero, List.set_cons_succ]
  refine' stage_take (i := 1) _ rfl (by kernel_rfl) (by kernel_rfl) (by kernel_rfl) (by kernel_rfl) (fun _ _ _ h => h) ⟨Box.cell HS 0, Box.cell HS 1, Box.cell HS 2, Box.cell HS 3, Box.cell HS 4, Box.cell HS 5, Box.cell HS 6, Box.cell HS 7, Box.cell HS 8, Box.cell HS 9, Box.cell HS 10, Box.cell HS 11, HS⟩ _ (fun W hW => _) _
  rotate_left
  focus (go_simp; done)
  focus (obtain ⟨k1, k2, k3, k4, k5, k6, k7, k8, k9, k10, k11, k12, X9⟩ := hW; go_simp; first | done | (with_reducible rfl))
  simp only [Act.put, List.setIfInBounds_toArray, List.set_cons_zero, List.set_cons_succ]
  refine' stage_take (i := 2) _ rfl (by kernel_rfl) (by kernel_rfl) (by kernel_rfl) (by kernel_rfl) (fun _ _ _ h => h) ⟨Box.cell HS 0, Box.cell HS 1, Box.cell HS 2, Box.cell HS 3, Box.cell HS 4, Box.cell HS 5, Box.cell HS 6, Box.cell HS 7, Box.cell HS 8, Box.cell HS 9, Box.cell HS 10, Box.cell HS 11, HS⟩ _ (fun W hW => _) _
  rotate_left
  focus (go_simp; done)
  focus (obtain ⟨k1, k2, k3, k4, k5, k6, k7, k8, k9, k10, k11, k12, X9⟩ := hW; go_simp; first | done | (with_reducible rfl))
  simp only [Act.put, List.setIfInBounds_toArray, List.set_cons_zero, List.set_cons_succ]
  refine' stage_take (i := 3) _ rfl (by kernel_rfl) (by kernel_rfl) (by kernel_rfl) (by kernel_rfl) (fun _ _ _ h => h) ⟨Box.cell HS 0, Box.cell HS 1, Box.cell HS 2, Box.cell HS 3, Box.cell HS 4, Box.cell HS 5, Box.cell HS 6, Box.cell HS 7, Box.cell HS 8, Box.cell HS 9, Box.cell HS 10, Box.cell HS 11, HS⟩ _ (fun W hW => _) _
  rotate_left
  focus (go_simp; done)
  focus (obtain ⟨k1, k2, k3, k4, k5, k6, k7, k8, k9, k10, k11, k12, X9⟩ := hW; go_simp; first | done | (with_reducible rfl))
  simp only [Act.put, List.setIfInBounds_toArray, List.set_cons_zero, List.set_cons_succ]
  refine' stage_take (i := 4) _ rfl (by kernel_rfl) (by kernel_rfl) (by kernel_rfl) (by kernel_rfl) (fun _ _ _ h => h) ⟨Box.cell HS 0, Box.cell HS 1, Box.cell HS 2, Box.cell HS 3, Box.cell HS 4, Box.cell HS 5, Box.cell HS 6, Box.cell HS 7, Box.cell HS 8, Box.cell HS 9, Box.cell HS 10, Box.cell HS 11, HS⟩ _ (fun W hW => _) _
  rotate_left
  focus (go_simp; done)
  focus (obtain ⟨k1, k2, k3, k4, k5, k6, k7, k8, k9, k10, k11, k12, X9⟩ := hW; go_simp; first | done | (with_reducible rfl))
  simp only [Act.put, List.setIfInBounds_toArray, List.set_cons_zero, List.set_cons_succ]
  refine' stage_take (i := 5) _ rfl (by kernel_rfl) (by kernel_rfl) (by kernel_rfl) (by kernel_rfl) (fun _ _ _ h => h) ⟨Box.cell HS 0, Box.cell HS 1, Box.cell HS 2, Box.cell HS 3, Box.cell HS 4, Box.cell HS 5, Box.cell HS 6, Box.cell HS 7, Box.cell HS 8, Box.cell HS 9, Box.cell HS 10, Box.cell HS 11, HS⟩ _ (fun W hW => _) _
  rotate_left
  focus (go_simp; done)
  focus (obtain ⟨k1, k2, k3, k4, k5, k6, k7, k8, k9, k10, k11, k12, X9⟩ := hW; go_simp; first | done | (with_reducible rfl))
  simp only [Act.put, List.setIfInBounds_toArray, List.set_cons_zero, List.set_cons_succ]
  refine' stage_take (i := 6) _ rfl (by kernel_rfl) (by kernel_rfl) (by kernel_rfl) (by kernel_rfl) (fun _ _ _ h => h) ⟨Box.cell HS 0, Box.cell HS 1, Box.cell HS 2, Box.cell HS 3, Box.cell HS 4, Box.cell HS 5, Box.cell HS 6, Box.cell HS 7, Box.cell HS 8, Box.cell HS 9, Box.cell HS 10, Box.cell HS 11, HS⟩ _ (fun W hW => _) _
  rotate_left
  focus (go_simp; done)
  focus (obtain ⟨k1, k2, k3, k4, k5, k6, k7, k8, k9, k10, k11, k12, X9⟩ := hW; go_simp; first | done | (with_reducible rfl))
  simp only [Act.put, List.setIfInBounds_toArray, List.set_cons_zero, List.set_cons_succ]
  refine' stage_take (i := 7) _ rfl (by kernel_rfl) (by kernel_rfl) (by kernel_rfl) (by kernel_rfl) (fun _ _ _ h => h) ⟨Box.cell HS 0, Box.cell HS 1, Box.cell HS 2, Box.cell HS 3, Box.cell HS 4, Box.cell HS 5, Box.cell HS 6, Box.cell HS 7, Box.cell HS 8, Box.cell HS 9, Box.cell HS 10, Box.cell HS 11, HS⟩ _ (fun W hW => _) _
  rotate_left
  focus (go_simp; done)
  focus (obtain ⟨k1, k2, k3, k4, k5, k6, k7, k8, k9, k10, k11, k12, X9⟩ := hW; go_simp; first | done | (with_reducible rfl))
  simp only [Act.put, List.setIfInBounds_toArray, List.set_cons_zero, List.set_cons_succ]
  refine' stage_take (i := 8) _ rfl (by kernel_rfl) (by kernel_rfl) (by kernel_rfl) (by kernel_rfl) (fun _ _ _ h => h) ⟨Box.cell HS 0, Box.cell HS 1, Box.cell HS 2, Box.cell HS 3, Box.cell HS 4, Box.cell HS 5, Box.cell HS 6, Box.cell HS 7, Box.cell HS 8, Box.cell HS 9, Box.cell HS 10, Box.cell HS 11, HS⟩ _ (fun W hW => _) _
  rotate_left
  focus (go_simp; done)
  focus (obtain ⟨k1, k2, k3, k4, k5, k6, k7, k8, k9, k10, k11, k12, X9⟩ := hW; go_simp; first | done | (with_reducible rfl))
  simp only [Act.put, List.setIfInBounds_toArray, List.set_cons_zero, List.set_cons_succ]
  refine' stage_take (i := 9) _ rfl (by kernel_rfl) (by kernel_rfl) (by kernel_rfl) (by kernel_rfl) (fun _ _ _ h => h) ⟨Box.cell HS 0, Box.cell HS 1, Box.cell HS 2, Box.cell HS 3, Box.cell HS 4, Box.cell HS 5, Box.cell HS 6, Box.cell HS 7, Box.cell HS 8, Box.cell HS 9, Box.cell HS 10, Box.cell HS 11, HS⟩ _ (fun W hW => _) _
  rotate_left
  focus (go_simp; done)
  focus (obtain ⟨k1, k2, k3, k4, k5, k6, k7, k8, k9, k10, k11, k12, X9⟩ := hW; go_simp; first | done | (with_reducible rfl))
  simp only [Act.put, List.setIfInBounds_toArray, List.set_cons_zero, List.set_cons_succ]
  refine' stage_take (i := 10) _ rfl (by kernel_rfl) (by kernel_rfl) (by kernel_rfl) (by kernel_rfl) (fun _ _ _ h => h) ⟨Box.cell HS 0, Box.cell HS 1, Box.cell HS 2, Box.cell HS 3, Box.cell HS 4, Box.cell HS 5, Box.cell HS 6, Box.cell HS 7, Box.cell HS 8, Box.cell HS 9, Box.cell HS 10, Box.cell HS 11, HS⟩ _ (fun W hW => _) _
  rotate_left
  focus (go_simp; done)
  focus (obtain ⟨k1, k2, k3, k4, k5, k6, k7, k8, k9, k10, k11, k12, X9⟩ := hW; go_simp; first | done | (with_reducible rfl))
  simp only [Act.put, List.setIfInBounds_toArray, List.set_cons_zero, List.set_cons_succ]
  refine' stage_take (i := 11) _ rfl (by kernel_rfl) (by kernel_rfl) (by kernel_rfl) (by kernel_rfl) (fun _ _ _ h => h) ⟨Box.cell HS 0, Box.cell HS 1, Box.cell HS 2, Box.cell HS 3, Box.cell HS 4, Box.cell HS 5, Box.cell HS 6, Box.cell HS 7, Box.cell HS 8, Box.cell HS 9, Box.cell HS 10, Box.cell HS 11, HS⟩ _ (fun W hW => _) _
  rotate_left
  focus (go_simp; done)
  focus (obtain ⟨k1, k2, k3, k4, k5, k6, k7, k8, k9, k10, k11, k12, X9⟩ := hW; go_simp; first | done | (with_reducible rfl))
  simp only [Act.put, List.setIfInBounds_toArray, List.set_cons_zero, List.set_cons_succ]
  refine' stage_take (i := 12) _ rfl (by kernel_rfl) (by kernel_rfl) (by kernel_rfl) (by kernel_rfl) (fun _ _ _ h => h) ⟨Box.cell HS 0, Box.cell HS 1, Box.cell HS 2, Box.cell HS 3, Box.cell HS 4, Box.cell HS 5, Box.cell HS 6, Box.cell HS 7, Box.cell HS 8, Box.cell HS 9, Box.cell HS 10, Box.cell HS 11, HS⟩ _ (fun W hW => _) _
  rotate_left
  focus (go_simp; done)
  focus (obtain ⟨k1, k2, k3, k4, k5, k6, k7, k8, k9, k10, k11, k12, X9⟩ := hW; go_simp; first | done | (with_reducible rfl))
  simp only [Act.put, List.setIfInBounds_toArray, List.set_cons_zero, List.set_cons_succ]
  refine' stage_take (i := 13) _ rfl (by kernel_rfl) (by kernel_rfl) (by kernel_rfl) (by kernel_rfl) (fun _ _ _ h => h) ⟨Box.cell HS 0, Box.cell HS 1, Box.cell HS 2, Box.cell HS 3, Box.cell HS 4, Box.cell HS 5, Box.cell HS 6, Box.cell HS 7, Box.cell HS 8, Box.cell HS 9, Box.cell HS 10, Box.cell HS 11, HS⟩ _ (fun W hW => _) _
  rotate_left
  focus (go_simp; done)
  focus (obtain ⟨k1, k2, k3, k4, k5, k6, k7, k8, k9, k10, k11, k12, X9⟩ := hW; go_simp; first | done | (with_reducible rfl))
  simp only [Act.put, List.setIfInBounds_toArray, List.set_cons_zero, List.set_cons_succ]
  refine' stage_take (i := 14) _ rfl (by kernel_rfl) (by kernel_rfl) (by kernel_rfl) (by kernel_rfl) (fun _ _ _ h => h) ⟨Box.cell HS 0, Box.cell HS 1, Box.cell HS 2, Box.cell HS 3, Box.cell HS 4, Box.cell HS 5, Box.cell HS 6, Box.cell HS 7, Box.cell HS 8, Box.cell HS 9, Box.cell HS 10, Box.cell HS 11, HS⟩ _ (fun W hW => _) _
  rotate_left
  focus (go_simp; done)
  focus (obtain ⟨k1, k2, k3, k4, k5, k6, k7, k8, k9, k10, k11, k12, X9⟩ := hW; go_simp; first | done | (with_reducible rfl))
  simp only [Act.put, List.setIfInBounds_toArray, List.set_cons_zero, List.set_cons_succ]
  refine' stage_take (i := 15) _ rfl (by kernel_rfl) (by kernel_rfl) (by kernel_rfl) (by kernel_rfl) (fun _ _ _ h => h) ⟨Box.cell HS 0, Box.cell HS 1, Box.cell HS 2, Box.cell HS 3, Box.cell HS 4, Box.cell HS 5, Box.cell HS 6, Box.cell HS 7, Box.cell HS 8, Box.cell HS 9, Box.cell HS 10, Box.cell HS 11, HS⟩ _ (fun W hW => _) _
  rotate_left
  focus (go_simp; done)
  focus (obtain ⟨k1, k2, k3, k4, k5, k6, k7, k8, k9, k10, k11, k12, X9⟩ := hW; go_simp; first | done | (with_reducible rfl))
  simp only [Act.put, List.setIfInBounds_toArray, List.set_cons_zero, List.set_cons_succ]
  refine' stage_take (i := 16) _ rfl (by kernel_rfl) (by kernel_rfl) (by kernel_rfl) (by kernel_rfl) (fun _ _ _ h => h) ⟨Box.cell HS 0, Box.cell HS 1, Box.cell HS 2, Box.cell HS 3, Box.cell HS 4, Box.cell HS 5, Box.cell HS 6, Box.cell HS 7, Box.cell HS 8, Box.cell HS 9, Box.cell HS 10, Box.cell HS 11, HS⟩ _ (fun W hW => _) _
  rotate_left
  focus (go_simp; done)
  focus (obtain ⟨k1, k2, k3, k4, k5, k6, k7, k8, k9, k10, k11, k12, X9⟩ := hW; go_simp; first | done | (with_reducible rfl))
  simp only [Act.put, List.setIfInBounds_toArray, List.set_cons_zero, List.set_cons_succ]
  refine' stage_take (i := 17) _ rfl (by kernel_rfl) (by kernel_rfl) (by kernel_rfl) (by kernel_rfl) (fun _ _ _ h => h) ⟨Box.cell HS 0, Box.cell HS 1, Box.cell HS 2, Box.cell HS 3, Box.cell HS 4, Box.cell HS 5, Box.cell HS 6, Box.cell HS 7, Box.cell HS 8, Box.cell HS 9, Box.cell HS 10, Box.cell HS 11, HS⟩ _ (fun W hW => _) _
  rotate_left
  focus (go_simp; done)
  focus (obtain ⟨k1, k2, k3, k4, k5, k6, k7, k8, k9, k10, k11, k12, X9⟩ := hW; go_simp; first | done | (with_reducible rfl))
  simp only [Act.put, List.setIfInBounds_toArray, List.set_cons_zero, List.set_cons_succ]
  refine' stage_take (i := 18) _ rfl (by kernel_rfl) (by kernel_rfl) (by kernel_rfl) (by kernel_rfl) (fun _ _ _ h => h) ⟨Box.cell HS 0, Box.cell HS 1, Box.cell HS 2, Box.cell HS 3, Box.cell HS 4, Box.cell HS 5, Box.cell HS 6, Box.cell HS 7, Box.cell HS 8, Box.cell HS 9, Box.cell HS 10, Box.cell HS 11, HS⟩ _ (fun W hW => _) _
  rotate_left
  focus (go_simp; done)
  focus (obtain ⟨k1, k2, k3, k4, k5, k6, k7, k8, k9, k10, k11, k12, X9⟩ := hW; go_simp; first | done | (with_reducible rfl))
  simp only [Act.put, List.setIfInBounds_toArray, List.set_cons_zero, List.set_cons_succ]
  refine' stage_take (i := 19) _ rfl (by kernel_rfl) (by kernel_rfl) (by kernel_rfl) (by kernel_rfl) (fun _ _ _ h => h) ⟨Box.cell HS 0, Box.cell HS 1, Box.cell HS 2, Box.cell HS 3, Box.cell HS 4, Box.cell HS 5, Box.cell HS 6, Box.cell HS 7, Box.cell HS 8, Box.cell HS 9, Box.cell HS 10, Box.cell HS 11, HS⟩ _ (fun W hW => _) _
  rotate_left
  focus (go_simp; done)
  focus (obtain ⟨k1, k2, k3, k4, k5, k6, k7, k8, k9, k10, k11, k12, X9⟩ := hW; go_simp; first | done | (with_reducible rfl))
  simp only [Act.put, List.setIfInBounds_toArray, List.set_cons_zero, List.set_cons_succ]
  refine' stage_take (i := 20) _ rfl (by kernel_rfl) (by kernel_rfl) (by kernel_rfl) (by kernel_rfl) (fun _ _ _ h => h) ⟨Box.cell HS 0, Box.cell HS 1, Box.cell HS 2, Box.cell HS 3, Box.cell HS 4, Box.cell HS 5, Box.cell HS 6, Box.cell HS 7, Box.cell HS 8, Box.cell HS 9, Box.cell HS 10, Box.cell HS 11, HS⟩ _ (fun W hW => _) _
  rotate_left
  focus (go_simp; done)
  focus (obtain ⟨k1, k2, k3, k4, k5, k6, k7, k8, k9, k10, k11, k12, X9⟩ := hW; go_simp; first | done | (with_reducible rfl))
  simp only [Act.put, List.setIfInBounds_toArray, List.set_cons_zero, List.set_cons_succ]
  refine' stage_take (i := 21) _ rfl (by kernel_rfl) (by kernel_rfl) (by kernel_rfl) (by kernel_rfl) (fun _ _ _ h => h) ⟨Box.cell HS 0, Box.cell HS 1, Box.cell HS 2, Box.cell HS 3, Box.cell HS 4, Box.cell HS 5, Box.cell HS 6, Box.cell HS 7, Box.cell HS 8, Box.cell HS 9, Box.cell HS 10, Box.cell HS 11, HS⟩ _ (fun W hW => _) _
  rotate_left
  focus (go_simp; done)
  focus (obtain ⟨k1, k2, k3, k4, k5, k6, k7, k8, k9, k10, k11, k12, X9⟩ := hW; go_simp; first | done | (with_reducible rfl))
  simp only [Act.put, List.setIfInBounds_toArray, List.set_cons_zero, List.set_cons_succ]
  refine' stage_take (i := 23) _ rfl (by kernel_rfl) (by kernel_rfl) (by kernel_rfl) (by kernel_rfl) (fun _ _ _ h => h) ⟨Box.cell HS 0, Box.cell HS 1, Box.cell HS 2, Box.cell HS 3, Box.cell HS 4, Box.cell HS 5, Box.cell HS 6, Box.cell HS 7, Box.cell HS 8, Box.cell HS 9, Box.cell HS 10, Box.cell HS 11, HS⟩ _ (fun W hW => _) _
  rotate_left
  focus (go_simp; done)
  focus (obtain ⟨k1, k2, k3, k4, k5, k6, k7, k8, k9, k10, k11, k12, X9⟩ := hW; go_simp; first | done | (with_reducible rfl))
  simp only [Act.put, List.setIfInBounds_toArray, List.set_cons_zero, List.set_cons_succ]
  refine' stage_take (i := 24) _ rfl (by kernel_rfl) (by kernel_rfl) (by kernel_rfl) (by kernel_rfl) (fun _ _ _ h => h) ⟨Box.cell HS 0, Box.cell HS 1, Box.cell HS 2, Box.cell HS 3, Box.cell HS 4, Box.cell HS 5, Box.cell HS 6, Box.cell HS 7, Box.cell HS 8, Box.cell HS 9, Box.cell HS 10, Box.cell HS 11, HS⟩ _ (fun W hW => _) _
  rotate_left
  focus (go_simp; done)
  focus (obtain ⟨k1, k2, k3, k4, k5, k6, k7, k8, k9, k10, k11, k12, X9⟩ := hW; go_simp; first | done | (with_reducible rfl))
  simp only [Act.put, List.setIfInBounds_toArray, List.set_cons_zero, List.set_cons_succ]
  refine' stage_take (i := 25) _ rfl (by kernel_rfl) (by kernel_rfl) (by kernel_rfl) (by kernel_rfl) (fun _ _ _ h => h) ⟨Box.cell HS 0, Box.cell HS 1, Box.cell HS 2, Box.cell HS 3, Box.cell HS 4, Box.cell HS 5, Box.cell HS 6, Box.cell HS 7, Box.cell HS 8, Box.cell HS 9, Box.cell HS 10, Box.cell HS 11, HS⟩ _ (fun W hW => _) _
  rotate_left
  focus (go_simp; done)
  focus (obtain ⟨k1, k2, k3, k4, k5, k6, k7, k8, k9, k10, k11, k12, X9⟩ := hW; go_simp; first | done | (with_reducible rfl))
  simp only [Act.put, List.setIfInBounds_toArray, List.set_cons_zero, List.set_cons_succ]
  refine stage_only (i := 22) rfl (by kernel_rfl) ?_ (fun K hK => ?_)
  focus (go_simp; done)
  go_simp
  go_at_call 31
  refine (rbit_calls x.call _).mono ?_
  rintro e w4 ⟨rfl, rfl⟩
  go_simp
  replace HS := HS
  refine hK.out _ _ (fun _ => ⟨Box.cell HS 0, Box.cell HS 1, Box.cell HS 2, Box.cell HS 3, Box.cell HS 4, Box.cell HS 5, Box.cell HS 6, Box.cell HS 7, Box.cell HS 8, Box.cell HS 9, Box.cell HS 10, Box.cell HS 11, HS⟩) ?_
  clear hK K
  try simp only [Act.put, List.setIfInBounds_toArray, List.set_cons_zero, List.set_cons_succ]
  refine stage_only (i := 26) rfl (by kernel_rfl) ?_ (fun K hK => ?_)
  focus (go_simp; done)
  go_simp
  replace HS := Box.alloc HS (.cells #[.int .i64 x.kind, .int .i64 x.acct, .int .i64 x.id, .int .i64 x.new, .int .i64 x.instr, .int .i64 x.under, .int .i64 x.cur, .int .i64 x.qty, .int .i64 x.price, .int .i64 x.amount, .int .i64 (bitF x.call), .int .i64 (x.name.length : Int)] 3)
  refine hK.out _ _ (fun _ => ⟨Box.cell HS 0, Box.cell HS 1, Box.cell HS 2, Box.cell HS 3, Box.cell HS 4, Box.cell HS 5, Box.cell HS 6, Box.cell HS 7, Box.cell HS 8, Box.cell HS 9, Box.cell HS 10, Box.cell HS 11, HS⟩) ?_
  clear hK K
  try simp only [Act.put, List.setIfInBounds_toArray, List.set_cons_zero, List.set_cons_succ]
  refine stage_only (i := 27) rfl (by kernel_rfl) ?_ (fun K hK => ?_)
  focus (go_simp; done)
  go_simp
  go_at_call 30
  refine (put_step (A := w0.drew) (bs := []) (own_drew ON.out) hz [x.kind, x.acct, x.id, x.new, x.instr, x.under, x.cur, x.qty, x.price, x.amount, bitF x.call, (x.name.length : Int)] (by simp) #[.int .i64 x.kind, .int .i64 x.acct, .int .i64 x.id, .int .i64 x.new, .int .i64 x.instr, .int .i64 x.under, .int .i64 x.cur, .int .i64 x.qty, .int .i64 x.price, .int .i64 x.amount, .int .i64 (bitF x.call), .int .i64 (x.name.length : Int)] rfl 12 rfl).mono ?_
  rintro e w5 ⟨o5, rfl, own5, app5⟩
  go_simp
  replace HS := box_grown (box_drew HX.out) (own_drew ON.out) (by decide) app5.grown
  refine hK.out _ _ (fun _ => ⟨Box.cell HS 0, Box.cell HS 1, Box.cell HS 2, Box.cell HS 3, Box.cell HS 4, Box.cell HS 5, Box.cell HS 6, Box.cell HS 7, Box.cell HS 8, Box.cell HS 9, Box.cell HS 10, Box.cell HS 11, HS⟩) ?_
  clear hK K
  try simp only [Act.put, List.setIfInBounds_toArray, List.set_cons_zero, List.set_cons_succ]
  refine stage_only (i := 28) rfl (by kernel_rfl) ?_ (fun K hK => ?_)
  focus (go_simp; done)
  go_simp
  refine hK.out _ _ (fun h => absurd h (by decide)) ?_
  clear hK K
  try simp only [Act.put, List.setIfInBounds_toArray, List.set_cons_zero, List.set_cons_succ]
  refine stage_end (by kernel_rfl) ?_
  rw [List.nil_append] at own5
  have hz5 := app5.grown.size
  have low5 : Below w.heap.size w w5 := HL.out.drew.trans (app5.low (show w.heap.size ≤ w0.drew.heap.size from HL.out.size) (fun g hg => by simp [Value.ownBlock] at hg))
  have HZ5 : w.heap.size + 1 ≤ w5.heap.size := Nat.le_trans hz hz5
  have e11 : w5.cell? ⟨w.heap.size, 11, none⟩ = some (.string ⟨x.name.toArray⟩) := Box.cell HS 11
  have HL5 := Lib.hid low5
  have HO5 := Lib.hid own5
  have hl5 : (encs [x.kind, x.acct, x.id, x.new, x.instr, x.under, x.cur, x.qty, x.price, x.amount, bitF x.call, (x.name.length : Int)]).length = 96 := by rw [encs_len]; rfl
  have HLen : Hid ((encE x).length = (encs [x.kind, x.acct, x.id, x.new, x.instr, x.under, x.cur, x.qty, x.price, x.amount, bitF x.call, (x.name.length : Int)]).length + (⟨x.name.toArray⟩ : ByteArray).size) := by unfold Hid; rw [← encE_two, List.length_append, hst]
  have HCel : Hid (u8s (encE x) = u8s (encs [x.kind, x.acct, x.id, x.new, x.instr, x.under, x.cur, x.qty, x.price, x.amount, bitF x.call, (x.name.length : Int)]) ++ Go.Lib.strCells ⟨x.name.toArray⟩) := by unfold Hid; rw [← encE_two, str_cells, u8s_append]
  clear HS low5 own5 app5 ON
  go_wp2_with (at_builtin; refine wpList_append_str_at rfl (.tmp 45) (.tmp 47) elem8 Tryz.underlying9 rfl (w.heap.size + 1) o5 _ _ rfl HO5.out ⟨x.name.toArray⟩ rfl (by omega) (by omega) HZ5 ?_; intro o6 w6 own6 g6 ob6)
  go_ret2
  rw [HQ.out]
  refine ⟨_, rfl, by rw [HLen.out, HCel.out]; exact own6, HL5.out.trans ((Below.refl _ _).grown g6 HL5.out.size (fun g hg => by have := (HO5.out.lt g hg).1; omega))⟩

end Go.Proofs.YtocjfjikkdpfdaaGreatDoor.ImgW
namespace Go.Proofs.YtocjfjikkdpfdaaGreatDoor.ImgW
open Go.ChangeShapes Go.WideShapes Go.ChangeAt Go.RowKit Go.Proofs.YtocjfjikkdpfdaaGreatDoor.Bas Go.Proofs.YtocjfjikkdpfdaaGreatDoor.LedM Go.Proofs.YtocjfjikkdpfdaaGreatDoor.LedW

theorem u8s_at (xs : List UInt8) (k : Nat) (hk : k < xs.length) : (u8s xs)[k]? = some (.int .u8 (xs[k].toNat : Int)) := by
  unfold u8s
  rw [List.getElem?_map, List.getElem?_eq_getElem hk]
  rfl
theorem u8_inj {a b : UInt8} (h : (a.toNat : Int) = (b.toNat : Int)) : a = b := UInt8.toNat_inj.1 (by omega)
set_option maxHeartbeats 1000000 in
theorem isame_calls (a b : Option Addr) (ca cb : Nat) (xs ys : List UInt8) (w : World) (hbig : xs.length ≤ 9223372036854775807) (hbig2 : ys.length ≤ 9223372036854775807) (ha : At w a (u8s xs)) (hb : At w b (u8s ys)) :
    Calls Tryz.prog 14 #[.slice a xs.length ca, .slice b ys.length cb] w fun e w' => e = .returned (.bool (decide (xs = ys))) ∧ ∃ n, w' = w.drewN n := by
  have HA := Lib.hid ha
  have HB := Lib.hid hb
  clear ha hb
  go_enter Tryz.func14, Tryz.ntmps14
  by_cases hl : xs.length = ys.length
  · have hlb : ((xs.length : Int) != (ys.length : Int)) = false := by simp [hl]
    have HL := Lib.hid hl
    clear hl
    go_wp2_with fail
    go_loopw [13] (fun i wr => ∃ k : Nat, k ≤ xs.length ∧ i = .int .i64 k ∧ (∃ n, wr = w.drewN n) ∧ Hid (xs.take k = ys.take k)) (fun i _ => xs.length - (intOf i).toNat)
    case atStart => exact ⟨0, by omega, rfl, ⟨0, rfl⟩, by simp [Hid]⟩
    case round =>
      obtain ⟨k, hk, rfl, ⟨n, rfl⟩, H⟩ := hrel
      by_cases hlt : k < xs.length
      · have hlt2 : k < ys.length := by have := HL.out; omega
        obtain ⟨b1, off1, rfl, hcell⟩ := HA.out k _ (u8s_at xs k hlt)
        obtain ⟨b2, off2, rfl, hcell2⟩ := HB.out k _ (u8s_at ys k hlt2)
        have hm := take_eq_succ xs ys k hlt hlt2
        by_cases he : xs[k] = ys[k]
        · have HI : Hid (xs.take (k + 1) = ys.take (k + 1)) := hm.2 ⟨H.out, he⟩
          have heb : (((xs[k].toNat : Nat) : Int) != ((ys[k].toNat : Nat) : Int)) = false := by rw [he]; simp
          clear hm H he
          generalize xs[k].toNat = x at *
          generalize ys[k].toNat = y at *
          go_wp2_with fail
          go_quiet (fail)
          all_goals
            go_wp2_with fail
            go_roundw
            case rel => exact ⟨k + 1, by omega, by go_num, ⟨_, rfl⟩, HI⟩
            case measure => simp [intOf]; omega
        · have HI : Hid (xs ≠ ys) := fun h => he (by subst h; rfl)
          have heb : (((xs[k].toNat : Nat) : Int) != ((ys[k].toNat : Nat) : Int)) = true := by
            rw [bne_iff_ne]
            exact fun h => he (u8_inj h)
          clear hm H he
          generalize xs[k].toNat = x at *
          generalize ys[k].toNat = y at *
          go_wp2_with fail
          go_quiet (fail)
          all_goals
            go_wp2_with fail
            go_ret
            exact ⟨ret_bool (by simpa using HI.out), _, World.drewN_drewN _ _ _⟩
      · have hkk : k = xs.length := by omega
        subst hkk
        have HI : Hid (xs = ys) := by
          have := H.out
          rwa [List.take_length, HL.out, List.take_length] at this
        clear H
        go_wp2_with fail
        go_ret
        exact ⟨ret_bool (by simpa using HI.out), _, rfl⟩
  · have hne : xs ≠ ys := fun h => hl (by rw [h])
    have hlb : ((xs.length : Int) != (ys.length : Int)) = true := by simp; omega
    have HI := Lib.hid hne
    clear hl hne
    go_wp2_with fail
    go_ret
    exact ⟨ret_bool (by simpa using HI.out), 0, rfl⟩
/-- more than is played? -/
def iwideF (l : Led) : Bool := decide (1024 < headN l + l.accts.length)
theorem ifit_of {W : World} {s : Lists} {l : Led} {vs : List (Value × Acc)} (h : LedOk W l vs s) (ha : LedAt W s l vs) (hw : iwideF l = false) : LedFit l := by
  have hn : headN l + l.accts.length ≤ 1024 := by
    unfold iwideF at hw
    have := of_decide_eq_false hw
    omega
  unfold headN at hn
  refine ⟨by omega, h.day, h.curs, h.unders, h.instrs, fun x hx => ?_, h.poss, h.orders, h.avail, h.locs⟩
  rw [← ha.each] at hx
  obtain ⟨y, hy, rfl⟩ := List.mem_map.1 hx
  obtain ⟨_, i1, i2, i3, i4⟩ := h.accts y hy
  exact ⟨i1, i2, i3, i4⟩
set_option maxHeartbeats 1000000 in
theorem iwide_calls (s : Lists) (l : Led) (vs : List (Value × Acc)) (w : World) (hat : LedAt w s l vs) (hb : LedBig l) :
    Calls Tryz.prog 6 #[ledV s l] w fun e w' => e = .returned (.bool (iwideF l)) ∧ Below w.heap.size w w' := by
  unfold ledV
  have X := ledH_new w s l vs hat
  obtain ⟨l1, l2, l3, l4, l5, l6, l7, l8⟩ := hb
  have HW : Hid (iwideF l = decide (1024 < l.curs.length + l.unders.length + l.instrs.length + l.poss.length + l.orders.length + l.avail.length + l.locs.length + l.accts.length)) := rfl
  clear hat
  generalize iwideF l = q at HW ⊢
  go_enter Tryz.func6, Tryz.ntmps6
  go_upto_region 1 with fail
  generalize w.alloc (.cells #[.int .i64 l.day, .slice s.a1 l.curs.length s.c1, .slice s.a2 l.unders.length s.c2, .slice s.a3 l.instrs.length s.c3, .slice s.a4 l.accts.length s.c4, .slice s.a5 l.poss.length s.c5, .slice s.a6 l.orders.length s.c6, .slice s.a7 l.avail.length s.c7, .slice s.a8 l.locs.length s.c8] 31) = w0 at X ⊢
  have c1 := X.c1
  have c2 := X.c2
  have c3 := X.c3
  have c4 := X.c4
  have c5 := X.c5
  have c6 := X.c6
  have c7 := X.c7
  have c8 := X.c8
  have XH := Lib.hid X
  clear X
  by_cases hbig : 1024 < l.curs.length + l.unders.length + l.instrs.length + l.poss.length + l.orders.length + l.avail.length + l.locs.length + l.accts.length
  · go_wp2_with fail
    go_ret
    exact ⟨ret_bool (by rw [HW.out]; exact decide_eq_decide.2 (by omega)), XH.out.low⟩
  · go_wp2_with fail
    go_ret
    exact ⟨ret_bool (by rw [HW.out]; exact decide_eq_decide.2 (by omega)), XH.out.low⟩
theorem event_size (x : EvR) : (eventF x).1.length ≤ 9223372036854775807 := by
  unfold eventF
  split
  · simp
  · split
    · simp
    · unfold encE encT
      rw [List.length_append, List.length_append, encs_len, encN_len]
      simp only [List.length_cons, List.length_nil]
      omega
theorem image_size (l : Led) (hf : LedFit l) : (imageF l).1.length ≤ 9223372036854775807 := by
  unfold imageF
  split
  · next hg =>
    obtain ⟨n1, n2, n3, n4, n5, n6, n7, n8⟩ := hf.len
    have h1 := flat_size encC 16 l.curs (fun x _ => by unfold encC; rw [encs_len]; exact Nat.le_refl _)
    have h2 := flat_size encU 40 l.unders (fun u hu => by have h1 := good_name hg u hu; unfold encU encT; rw [List.length_append, List.length_append, encN_len, encs_len]; simp only [List.length_cons, List.length_nil]; omega)
    have h3 := flat_size encI 64 (l.instrs.zip l.avail) (fun x _ => by unfold encI; rw [encs_len]; exact Nat.le_refl _)
    have h4 := flat_size encA 56 l.accts (fun a ha => by have h1 := good_cash hg a ha; unfold encA; rw [List.length_append, encs_len, encs_len]; simp only [List.length_cons, List.length_nil]; omega)
    have h5 := flat_size encP 24 l.poss (fun x _ => by unfold encP; rw [encs_len]; exact Nat.le_refl _)
    have h6 := flat_size encO 40 l.orders (fun x _ => by unfold encO; rw [encs_len]; exact Nat.le_refl _)
    have h7 := flat_size encP 24 l.locs (fun x _ => by unfold encP; rw [encs_len]; exact Nat.le_refl _)
    have h8 : (l.instrs.zip l.avail).length ≤ 1000000 := by rw [List.length_zip]; omega
    have h9 : (encs (headL l)).length = 64 := by rw [encs_len]; rfl
    show (encL l).length ≤ _
    unfold encL
    simp only [List.length_append]
    omega
  · simp
theorem image_first : imageF firstL = (encL firstL, 0) := if_pos good_first
set_option maxRecDepth 100000 in
theorem first_len : (encL firstL).length = 144 := by decide
def dayE : EvR := ⟨16, 0, 0, 0, 0, 0, 0, 0, 0, 0, false, []⟩
theorem event_day : eventF dayE = (encE dayE, 0) := rfl
set_option maxRecDepth 100000 in
theorem day_len : (encE dayE).length = 96 := by decide
theorem day_byte : (u8s (encE dayE))[0]? = some (.int .u8 16) := by kernel_rfl
set_option maxHeartbeats 1000000 in
theorem iwakes_calls (w : World) : Calls Tryz.prog 5 #[] w fun e w' => e = .returned (.bool true) ∧ Below w.heap.size w w' := by
  have F := Lib.hid (fun W => first_calls W)
  have I := Lib.hid (fun W s us h => image_calls s firstL us W h fit_first)
  rw [image_first] at I
  have E := Lib.hid (fun W => event_calls dayE W (by decide))
  rw [event_day] at E
  unfold evV at E
  unfold ledV at F I
  go_enter Tryz.func5, Tryz.ntmps5
  go_upto_region 3 with (first | (go_at_call 18; refine (F.out _).mono ?_; rintro e w1 ⟨s1, us1, rfl, own1, b1⟩) | (go_at_call 8; refine (I.out _ _ _ own1.at_).mono ?_; rintro e w2 ⟨o2, rfl, own2, b2⟩; obtain ⟨a2, c2, rfl, _, _, _, _, _⟩ := at_of_owns own2) | (go_at_call 9; refine (E.out _).mono ?_; rintro e w3 ⟨o3, rfl, own3, b3⟩; obtain ⟨a3, c3, rfl, _, _, at3, _, _⟩ := at_of_owns own3))
  have L2 := b1.trans (b2.mono b1.size)
  have L3 := Lib.hid (L2.trans (b3.mono L2.size))
  obtain ⟨b, off, rfl, hcell⟩ := at3 0 _ day_byte
  have hl1 := first_len
  have hl2 := day_len
  simp only [Nat.add_zero] at hcell
  clear own1 own2 own3 at3 b1 b2 b3 L2
  generalize (encL firstL).length = q1 at *
  generalize (encE dayE).length = q2 at *
  subst hl1 hl2
  go_wp2_with fail
  go_ret
  exact ⟨rfl, L3.out⟩
theorem cellsOf_ev : Tryz.prog.cellsOf 33 = 12 := by kernel_rfl
set_option maxRecDepth 100000 in
theorem open_evr {H : Type} {enc : TypeId × Value → H} {W : World} {base : Nat} {v : Value} {d : DataW H} {p : List MemPlace} (hv : Value.okWide Tryz.prog W .any base 33 v) (h : DataW.Trod enc Tryz.prog W 0 (fun _ => true) true 33 v d p) (hw : ∀ x ∈ d.weights Tryz.prog 33, x ≤ reachBytes) :
    ∃ x : EvR, v = evV x ∧ x.name.length ≤ 140737488351232 ∧ FixpW.I64 x.kind ∧ FixpW.I64 x.acct ∧ FixpW.I64 x.id ∧ FixpW.I64 x.new ∧ FixpW.I64 x.instr ∧ FixpW.I64 x.under ∧ FixpW.I64 x.cur ∧ FixpW.I64 x.qty ∧ FixpW.I64 x.price ∧ FixpW.I64 x.amount := by
  obtain ⟨L, ds, rfl, hL, hy, _, hg⟩ := open_fields Tryz.underlying33 hv h
  rw [cellsOf_ev] at hL
  rw [hy] at hw
  match L, hL with
  | [r0, r1, r2, r3, r4, r5, r6, r7, r8, r9, r10, r11], _ =>
    obtain ⟨x0, y0, m0, e0, d0, t0⟩ := hg 0 _ rfl cells64
    obtain ⟨z0, rfl, w0⟩ := int_of t0
    obtain ⟨x1, y1, m1, e1, d1, t1⟩ := hg 1 _ rfl cells64
    obtain ⟨z1, rfl, w1⟩ := int_of t1
    obtain ⟨x2, y2, m2, e2, d2, t2⟩ := hg 2 _ rfl cells64
    obtain ⟨z2, rfl, w2⟩ := int_of t2
    obtain ⟨x3, y3, m3, e3, d3, t3⟩ := hg 3 _ rfl cells64
    obtain ⟨z3, rfl, w3⟩ := int_of t3
    obtain ⟨x4, y4, m4, e4, d4, t4⟩ := hg 4 _ rfl cells64
    obtain ⟨z4, rfl, w4⟩ := int_of t4
    obtain ⟨x5, y5, m5, e5, d5, t5⟩ := hg 5 _ rfl cells64
    obtain ⟨z5, rfl, w5⟩ := int_of t5
    obtain ⟨x6, y6, m6, e6, d6, t6⟩ := hg 6 _ rfl cells64
    obtain ⟨z6, rfl, w6⟩ := int_of t6
    obtain ⟨x7, y7, m7, e7, d7, t7⟩ := hg 7 _ rfl cells64
    obtain ⟨z7, rfl, w7⟩ := int_of t7
    obtain ⟨x8, y8, m8, e8, d8, t8⟩ := hg 8 _ rfl cells64
    obtain ⟨z8, rfl, w8⟩ := int_of t8
    obtain ⟨x9, y9, m9, e9, d9, t9⟩ := hg 9 _ rfl cells64
    obtain ⟨z9, rfl, w9⟩ := int_of t9
    obtain ⟨x10, y10, m10, e10, d10, t10⟩ := hg 10 _ rfl cellsB
    obtain ⟨z10, rfl⟩ := bool_of t10
    obtain ⟨x11, y11, m11, e11, d11, t11⟩ := hg 11 _ rfl cellsS
    obtain ⟨z11, rfl, w11⟩ := str_of t11 (reach_field (i := 11) Tryz.underlying33 hw rfl d11)
    simp at e0 e1 e2 e3 e4 e5 e6 e7 e8 e9 e10 e11
    subst e0 e1 e2 e3 e4 e5 e6 e7 e8 e9 e10 e11
    exact ⟨⟨z0, z1, z2, z3, z4, z5, z6, z7, z8, z9, z10, z11⟩, rfl, w11, w0, w1, w2, w3, w4, w5, w6, w7, w8, w9⟩
/-- the tables' cells, for a witness -/
def acceptCells : Array Value := LedW.acceptCells
def firstCells : Array Value := LedW.firstCells
end Go.Proofs.YtocjfjikkdpfdaaGreatDoor.ImgW
namespace Go.Proofs.YtocjfjikkdpfdaaGreatDoor.ImgW
open Go.RowKit Go.Proofs.YtocjfjikkdpfdaaGreatDoor.Bas Go.Proofs.YtocjfjikkdpfdaaGreatDoor.LedM Go.Proofs.YtocjfjikkdpfdaaGreatDoor.LedW

theorem byte_eq {x y : Int} {k : Nat} (h : byteN x k = byteN y k) : bitsN x / 256 ^ k % 256 = bitsN y / 256 ^ k % 256 := by
  have h1 := byteN_nat x k
  have h2 := byteN_nat y k
  rw [h] at h1
  omega
theorem bits_inj {x y : Int} (hx : FixpW.I64 x) (hy : FixpW.I64 y) (h : bitsN x = bitsN y) : x = y := by
  obtain ⟨a1, a2⟩ := hx
  obtain ⟨b1, b2⟩ := hy
  unfold bitsN at h
  omega
theorem encN_inj {x y : Int} (hx : FixpW.I64 x) (hy : FixpW.I64 y) (h : encN x = encN y) : x = y := by
  unfold encN at h
  simp only [List.cons.injEq, and_true] at h
  obtain ⟨h0, h1, h2, h3, h4, h5, h6, h7⟩ := h
  have e0 := byte_eq h0
  have e1 := byte_eq h1
  have e2 := byte_eq h2
  have e3 := byte_eq h3
  have e4 := byte_eq h4
  have e5 := byte_eq h5
  have e6 := byte_eq h6
  have e7 := byte_eq h7
  have l1 := bits_lt x
  have l2 := bits_lt y
  refine bits_inj hx hy ?_
  generalize bitsN x = a at *
  generalize bitsN y = b at *
  simp only [Nat.reducePow, Nat.pow_zero, Nat.div_one] at e0 e1 e2 e3 e4 e5 e6 e7
  omega
/-- what is read at the front of bytes tells its record -/
def Code {α : Type} (f : α → List UInt8) (ok : α → Prop) : Prop := ∀ x y r r', ok x → ok y → f x ++ r = f y ++ r' → x = y ∧ r = r'
theorem code_num : Code encN FixpW.I64 := fun x y r r' hx hy h => by
  obtain ⟨h1, h2⟩ := List.append_inj h (by rw [encN_len, encN_len])
  exact ⟨encN_inj hx hy h1, h2⟩
theorem code_flat {α : Type} {f : α → List UInt8} {ok : α → Prop} (hf : Code f ok) : ∀ (xs ys : List α) (r r' : List UInt8), xs.length = ys.length → (∀ x ∈ xs, ok x) → (∀ y ∈ ys, ok y) → xs.flatMap f ++ r = ys.flatMap f ++ r' → xs = ys ∧ r = r'
  | [], [], r, r', _, _, _, h => ⟨rfl, by simpa using h⟩
  | [], _ :: _, _, _, hl, _, _, _ => by simp at hl
  | _ :: _, [], _, _, hl, _, _, _ => by simp at hl
  | x :: xs, y :: ys, r, r', hl, hx, hy, h => by
    rw [List.flatMap_cons, List.flatMap_cons, List.append_assoc, List.append_assoc] at h
    obtain ⟨e1, h2⟩ := hf x y _ _ (hx x List.mem_cons_self) (hy y List.mem_cons_self) h
    obtain ⟨e2, h3⟩ := code_flat hf xs ys r r' (by simpa using hl) (fun z hz => hx z (List.mem_cons_of_mem _ hz)) (fun z hz => hy z (List.mem_cons_of_mem _ hz)) h2
    exact ⟨by rw [e1, e2], h3⟩
theorem code_nums {xs ys : List Int} {r r' : List UInt8} (hl : xs.length = ys.length) (hx : ∀ x ∈ xs, FixpW.I64 x) (hy : ∀ y ∈ ys, FixpW.I64 y) (h : encs xs ++ r = encs ys ++ r') : xs = ys ∧ r = r' := code_flat code_num xs ys r r' hl hx hy h
theorem code_text {s t : List UInt8} {r r' : List UInt8} (hs : s.length ≤ 140737488351232) (ht : t.length ≤ 140737488351232) (h : encT s ++ r = encT t ++ r') : s = t ∧ r = r' := by
  unfold encT at h
  rw [List.append_assoc, List.append_assoc] at h
  obtain ⟨e1, h2⟩ := code_num _ _ _ _ ⟨by omega, by omega⟩ ⟨by omega, by omega⟩ h
  exact List.append_inj h2 (by omega)
theorem bitF_inj {a b : Bool} (h : bitF a = bitF b) : a = b := by cases a <;> cases b <;> simp_all [bitF]
theorem bitF_i64 (b : Bool) : FixpW.I64 (bitF b) := by cases b <;> exact ⟨by decide, by decide⟩
theorem code_cur : Code encC (fun c => FixpW.I64 c.1 ∧ FixpW.I64 c.2) := fun x y r r' hx hy h => by
  obtain ⟨e, h2⟩ := code_nums (xs := [x.1, x.2]) (ys := [y.1, y.2]) rfl (by simp; exact hx) (by simp; exact hy) h
  simp only [List.cons.injEq, and_true] at e
  exact ⟨Prod.ext e.1 e.2, h2⟩
theorem code_tri : Code encP (fun p => FixpW.I64 p.1 ∧ FixpW.I64 p.2.1 ∧ FixpW.I64 p.2.2) := fun x y r r' hx hy h => by
  obtain ⟨e, h2⟩ := code_nums (xs := [x.1, x.2.1, x.2.2]) (ys := [y.1, y.2.1, y.2.2]) rfl (by simp; exact hx) (by simp; exact hy) h
  simp only [List.cons.injEq, and_true] at e
  exact ⟨Prod.ext e.1 (Prod.ext e.2.1 e.2.2), h2⟩
theorem code_ord : Code encO (fun o => FixpW.I64 o.acct ∧ FixpW.I64 o.id ∧ FixpW.I64 o.instr ∧ FixpW.I64 o.qty ∧ FixpW.I64 o.price) := fun x y r r' hx hy h => by
  obtain ⟨e, h2⟩ := code_nums (xs := [x.acct, x.id, x.instr, x.qty, x.price]) (ys := [y.acct, y.id, y.instr, y.qty, y.price]) rfl (by simp; exact hx) (by simp; exact hy) h
  simp only [List.cons.injEq, and_true] at e
  refine ⟨?_, h2⟩
  cases x; cases y
  simp only at e
  obtain ⟨rfl, rfl, rfl, rfl, rfl⟩ := e
  rfl
theorem code_und : Code encU (fun u => u.name.length ≤ 140737488351232 ∧ FixpW.I64 u.cur ∧ FixpW.I64 u.price ∧ FixpW.I64 u.vol) := fun x y r r' hx hy h => by
  unfold encU at h
  rw [List.append_assoc, List.append_assoc] at h
  obtain ⟨e0, h1⟩ := code_text hx.1 hy.1 h
  obtain ⟨e, h2⟩ := code_nums (xs := [x.cur, x.price, x.vol]) (ys := [y.cur, y.price, y.vol]) rfl (by simp; exact hx.2) (by simp; exact hy.2) h1
  simp only [List.cons.injEq, and_true] at e
  refine ⟨?_, h2⟩
  cases x; cases y
  simp only at e e0
  subst e0
  obtain ⟨rfl, rfl, rfl⟩ := e
  rfl
theorem code_ins : Code encI (fun x => (FixpW.I64 x.1.kind ∧ FixpW.I64 x.1.under ∧ FixpW.I64 x.1.mult ∧ FixpW.I64 x.1.strike ∧ FixpW.I64 x.1.expiry ∧ FixpW.I64 x.1.mark) ∧ FixpW.I64 x.2) := fun x y r r' hx hy h => by
  have hx5 := bitF_i64 x.1.call
  have hy5 := bitF_i64 y.1.call
  obtain ⟨e, h2⟩ := code_nums (xs := [x.1.kind, x.1.under, x.1.mult, x.1.strike, x.1.expiry, bitF x.1.call, x.1.mark, x.2]) (ys := [y.1.kind, y.1.under, y.1.mult, y.1.strike, y.1.expiry, bitF y.1.call, y.1.mark, y.2]) rfl (by simp; exact ⟨hx.1.1, hx.1.2.1, hx.1.2.2.1, hx.1.2.2.2.1, hx.1.2.2.2.2.1, hx5, hx.1.2.2.2.2.2, hx.2⟩) (by simp; exact ⟨hy.1.1, hy.1.2.1, hy.1.2.2.1, hy.1.2.2.2.1, hy.1.2.2.2.2.1, hy5, hy.1.2.2.2.2.2, hy.2⟩) h
  simp only [List.cons.injEq, and_true] at e
  refine ⟨?_, h2⟩
  obtain ⟨⟨a0, a1, a2, a3, a4, a5, a6⟩, a7⟩ := x
  obtain ⟨⟨b0, b1, b2, b3, b4, b5, b6⟩, b7⟩ := y
  simp only at e
  obtain ⟨rfl, rfl, rfl, rfl, rfl, h5, rfl, rfl⟩ := e
  rw [bitF_inj h5]
theorem code_acc (n : Nat) : Code encA (fun a => a.cash.length = n ∧ FixpW.I64 a.parent ∧ FixpW.I64 a.last ∧ ∀ z ∈ a.cash, FixpW.I64 z) := fun x y r r' hx hy h => by
  have hx5 := bitF_i64 x.flag
  have hy5 := bitF_i64 y.flag
  unfold encA at h
  rw [List.append_assoc, List.append_assoc] at h
  obtain ⟨e, h1⟩ := code_nums (xs := [x.parent, bitF x.flag, x.last]) (ys := [y.parent, bitF y.flag, y.last]) rfl (by simp; exact ⟨hx.2.1, hx5, hx.2.2.1⟩) (by simp; exact ⟨hy.2.1, hy5, hy.2.2.1⟩) h
  obtain ⟨e2, h2⟩ := code_nums (by rw [hx.1, hy.1]) hx.2.2.2 hy.2.2.2 h1
  simp only [List.cons.injEq, and_true] at e
  refine ⟨?_, h2⟩
  cases x; cases y
  simp only at e e2
  subst e2
  obtain ⟨rfl, h5, rfl⟩ := e
  rw [bitF_inj h5]
theorem zip_inj {α β : Type} : ∀ {a c : List α} {b d : List β}, b.length = a.length → d.length = c.length → a.length = c.length → a.zip b = c.zip d → a = c ∧ b = d
  | [], [], [], [], _, _, _, _ => ⟨rfl, rfl⟩
  | x :: a, y :: c, u :: b, v :: d, h1, h2, h3, h => by
    simp only [List.zip_cons_cons, List.cons.injEq, Prod.mk.injEq] at h
    obtain ⟨e1, e2⟩ := zip_inj (by simpa using h1) (by simpa using h2) (by simpa using h3) h.2
    exact ⟨by rw [h.1.1, e1], by rw [h.1.2, e2]⟩
  | [], _ :: _, _, _, _, _, h3, _ => by simp at h3
  | _ :: _, [], _, _, _, _, h3, _ => by simp at h3
  | [], [], _ :: _, _, h1, _, _, _ => by simp at h1
  | [], [], [], _ :: _, _, h2, _, _ => by simp at h2
  | _ :: _, _ :: _, [], _, h1, _, _, _ => by simp at h1
  | _ :: _, _ :: _, _ :: _, [], _, h2, _, _ => by simp at h2
theorem head_i64 {l : Led} (hf : LedFit l) : ∀ x ∈ headL l, FixpW.I64 x := by
  obtain ⟨n1, n2, n3, n4, n5, n6, n7, n8⟩ := hf.len
  intro x hx
  simp only [headL, List.mem_cons, List.not_mem_nil, or_false] at hx
  rcases hx with rfl | rfl | rfl | rfl | rfl | rfl | rfl | rfl
  · exact hf.day
  all_goals exact ⟨by omega, by omega⟩
theorem good_cashLen {l : Led} (h : goodF l = true) : ∀ a ∈ l.accts, a.cash.length = l.curs.length := fun a ha => by
  obtain ⟨k, hk, rfl⟩ := List.getElem_of_mem ha
  have := allI_at (good_parts h).2.2.1 hk
  unfold accOk at this
  rw [Bool.and_eq_true, decide_eq_true_eq] at this
  exact this.1.1
/-- two ledgers that can be have one image just if they are the same -/
theorem encL_inj {l m : Led} (fl : LedFit l) (fm : LedFit m) (gl : goodF l = true) (gm : goodF m = true) (h : encL l = encL m) : l = m := by
  unfold encL at h
  simp only [List.append_assoc] at h
  have h' : encs (headL l) ++ (l.curs.flatMap encC ++ (l.unders.flatMap encU ++ ((l.instrs.zip l.avail).flatMap encI ++ (l.accts.flatMap encA ++ (l.poss.flatMap encP ++ (l.orders.flatMap encO ++ (l.locs.flatMap encP ++ []))))))) = encs (headL m) ++ (m.curs.flatMap encC ++ (m.unders.flatMap encU ++ ((m.instrs.zip m.avail).flatMap encI ++ (m.accts.flatMap encA ++ (m.poss.flatMap encP ++ (m.orders.flatMap encO ++ (m.locs.flatMap encP ++ []))))))) := by simpa using h
  obtain ⟨eh, h1⟩ := code_nums (by rfl) (head_i64 fl) (head_i64 fm) h'
  simp only [headL, List.cons.injEq, and_true] at eh
  obtain ⟨d0, d1, d2, d3, d4, d5, d6, d7⟩ := eh
  have al := (good_parts gl).2.2.2
  have am := (good_parts gm).2.2.2
  obtain ⟨e1, h2⟩ := code_flat code_cur _ _ _ _ (by omega) fl.curs fm.curs h1
  obtain ⟨e2, h3⟩ := code_flat code_und _ _ _ _ (by omega) fl.unders fm.unders h2
  have okI : ∀ {l : Led}, LedFit l → ∀ x ∈ l.instrs.zip l.avail, (FixpW.I64 x.1.kind ∧ FixpW.I64 x.1.under ∧ FixpW.I64 x.1.mult ∧ FixpW.I64 x.1.strike ∧ FixpW.I64 x.1.expiry ∧ FixpW.I64 x.1.mark) ∧ FixpW.I64 x.2 := fun hf x hx => by
    have hm := List.of_mem_zip (a := x.1) (b := x.2) hx
    exact ⟨hf.instrs _ hm.1, hf.avail _ hm.2⟩
  obtain ⟨e3, h4⟩ := code_flat code_ins _ _ _ _ (by rw [List.length_zip, List.length_zip]; omega) (okI fl) (okI fm) h3
  obtain ⟨e3a, e3b⟩ := zip_inj al am (by omega) e3
  have okA : ∀ {l : Led}, LedFit l → goodF l = true → ∀ a ∈ l.accts, a.cash.length = l.curs.length ∧ FixpW.I64 a.parent ∧ FixpW.I64 a.last ∧ ∀ z ∈ a.cash, FixpW.I64 z := fun hf hg a ha => ⟨good_cashLen hg a ha, (hf.accts a ha).1, (hf.accts a ha).2.1, (hf.accts a ha).2.2.1⟩
  obtain ⟨e4, h5⟩ := code_flat (code_acc l.curs.length) _ _ _ _ (by omega) (okA fl gl) (fun a ha => by have := okA fm gm a ha; rw [e1]; exact this) h4
  obtain ⟨e5, h6⟩ := code_flat code_tri _ _ _ _ (by omega) fl.poss fm.poss h5
  obtain ⟨e6, h7⟩ := code_flat code_ord _ _ _ _ (by omega) fl.orders fm.orders h6
  obtain ⟨e7, _⟩ := code_flat code_tri _ _ _ _ (by omega) fl.locs fm.locs h7
  cases l; cases m
  simp only at d0 e1 e2 e3a e3b e4 e5 e6 e7
  subst d0 e1 e2 e3a e3b e4 e5 e6 e7
  rfl
structure EvFit (x : EvR) : Prop where
  name : x.name.length ≤ 140737488351232
  nums : FixpW.I64 x.kind ∧ FixpW.I64 x.acct ∧ FixpW.I64 x.id ∧ FixpW.I64 x.new ∧ FixpW.I64 x.instr ∧ FixpW.I64 x.under ∧ FixpW.I64 x.cur ∧ FixpW.I64 x.qty ∧ FixpW.I64 x.price ∧ FixpW.I64 x.amount
theorem encE_inj {x y : EvR} (fx : EvFit x) (fy : EvFit y) (h : encE x = encE y) : x = y := by
  have hx5 := bitF_i64 x.call
  have hy5 := bitF_i64 y.call
  obtain ⟨a0, a1, a2, a3, a4, a5, a6, a7, a8, a9⟩ := fx.nums
  obtain ⟨b0, b1, b2, b3, b4, b5, b6, b7, b8, b9⟩ := fy.nums
  unfold encE at h
  obtain ⟨e, h1⟩ := code_nums (by rfl) (by simp; exact ⟨a0, a1, a2, a3, a4, a5, a6, a7, a8, a9, hx5⟩) (by simp; exact ⟨b0, b1, b2, b3, b4, b5, b6, b7, b8, b9, hy5⟩) h
  have h1' : encT x.name ++ [] = encT y.name ++ [] := by simpa using h1
  obtain ⟨e11, _⟩ := code_text fx.name fy.name h1'
  simp only [List.cons.injEq, and_true] at e
  cases x; cases y
  simp only at e e11
  subst e11
  obtain ⟨rfl, rfl, rfl, rfl, rfl, rfl, rfl, rfl, rfl, rfl, h10⟩ := e
  rw [bitF_inj h10]
end Go.Proofs.YtocjfjikkdpfdaaGreatDoor.ImgW
namespace Go.Proofs.YtocjfjikkdpfdaaGreatDoor.ImgW
open Go.ChangeShapes Go.WideShapes Go.ChangeAt Go.RowKit Go.Proofs.YtocjfjikkdpfdaaGreatDoor.Bas Go.Proofs.YtocjfjikkdpfdaaGreatDoor.LedM Go.Proofs.YtocjfjikkdpfdaaGreatDoor.LedW

/-- an event's cells -/
def evC (x : EvR) : List Value := [.int .i64 x.kind, .int .i64 x.acct, .int .i64 x.id, .int .i64 x.new, .int .i64 x.instr, .int .i64 x.under, .int .i64 x.cur, .int .i64 x.qty, .int .i64 x.price, .int .i64 x.amount, .bool x.call, .string ⟨x.name.toArray⟩]
theorem evC_len (x : EvR) : (evC x).length = 12 := rfl
section
variable {P : Program} {H : Type} {enc : TypeId × Value → H}
/-- a struct's fields of one cell, out of its reading -/
theorem fields_read {W : World} {fs : Array Field} {t : TypeId} {L : List Value} {y : DataW H × List MemPlace} {fuel : Nat} (ht : P.underlying t = some (.struct fs)) (hf : DataW.trod enc P W 0 (fun _ => true) true fuel t L = some y) :
    ∃ (ds : List (DataW H)), L.length = P.cellsOf t ∧ y.1 = .agg ds ∧ ds.length = fs.size ∧
      ∀ (i : Nat) (f : Field), fs[i]? = some f → P.cellsOf f.type = 1 → ∃ (x : Value) (z : DataW H × List MemPlace) (m : Nat), L[f.offset]? = some x ∧ ds[i]? = some z.1 ∧ DataW.trod enc P W 0 (fun _ => true) true m f.type [x] = some z := by
  obtain ⟨xs, m, _, hx, hl, hlen, hg⟩ := DataW.trod_struct ht hf
  refine ⟨xs.map (·.1), hl, by rw [hx], by simpa using hlen, ?_⟩
  intro i f hfi hc
  have h1 := hg i f hfi
  have hi : i < xs.length := by rw [hlen]; exact (Array.getElem?_eq_some_iff.1 hfi).1
  rw [List.getElem?_eq_getElem hi, hc] at h1
  have hne : L[f.offset]? ≠ none := by
    intro hn
    rw [List.getElem?_eq_none_iff] at hn
    rw [List.drop_of_length_le hn] at h1
    cases m with
    | zero => simp [DataW.trod] at h1
    | succ n =>
      unfold DataW.trod at h1
      simp only [List.take_nil] at h1
      split at h1 <;> simp_all
  obtain ⟨x, hx⟩ := Option.ne_none_iff_exists'.1 hne
  have e : (L.drop f.offset).take 1 = [x] := by
    obtain ⟨hlt, he⟩ := List.getElem?_eq_some_iff.1 hx
    rw [List.drop_eq_getElem_cons hlt, he]; rfl
  rw [e] at h1
  exact ⟨x, xs[i], m, hx, by simp [hi], h1⟩
end
set_option maxRecDepth 100000 in
theorem evr_of_trod {H : Type} {enc : TypeId × Value → H} {W : World} {L : List Value} {y : DataW H × List MemPlace} {fuel : Nat} (hf : DataW.trod enc Tryz.prog W 0 (fun _ => true) true fuel 33 L = some y) (hw : ∀ x ∈ y.1.weights Tryz.prog 33, x ≤ reachBytes) :
    ∃ x : EvR, L = evC x ∧ EvFit x := by
  obtain ⟨ds, hL, hy, _, hg⟩ := fields_read Tryz.underlying33 hf
  rw [cellsOf_ev] at hL
  rw [hy] at hw
  match L, hL with
  | [r0, r1, r2, r3, r4, r5, r6, r7, r8, r9, r10, r11], _ =>
    obtain ⟨x0, y0, m0, e0, d0, t0⟩ := hg 0 _ rfl cells64
    obtain ⟨z0, rfl, w0⟩ := int_of t0
    obtain ⟨x1, y1, m1, e1, d1, t1⟩ := hg 1 _ rfl cells64
    obtain ⟨z1, rfl, w1⟩ := int_of t1
    obtain ⟨x2, y2, m2, e2, d2, t2⟩ := hg 2 _ rfl cells64
    obtain ⟨z2, rfl, w2⟩ := int_of t2
    obtain ⟨x3, y3, m3, e3, d3, t3⟩ := hg 3 _ rfl cells64
    obtain ⟨z3, rfl, w3⟩ := int_of t3
    obtain ⟨x4, y4, m4, e4, d4, t4⟩ := hg 4 _ rfl cells64
    obtain ⟨z4, rfl, w4⟩ := int_of t4
    obtain ⟨x5, y5, m5, e5, d5, t5⟩ := hg 5 _ rfl cells64
    obtain ⟨z5, rfl, w5⟩ := int_of t5
    obtain ⟨x6, y6, m6, e6, d6, t6⟩ := hg 6 _ rfl cells64
    obtain ⟨z6, rfl, w6⟩ := int_of t6
    obtain ⟨x7, y7, m7, e7, d7, t7⟩ := hg 7 _ rfl cells64
    obtain ⟨z7, rfl, w7⟩ := int_of t7
    obtain ⟨x8, y8, m8, e8, d8, t8⟩ := hg 8 _ rfl cells64
    obtain ⟨z8, rfl, w8⟩ := int_of t8
    obtain ⟨x9, y9, m9, e9, d9, t9⟩ := hg 9 _ rfl cells64
    obtain ⟨z9, rfl, w9⟩ := int_of t9
    obtain ⟨x10, y10, m10, e10, d10, t10⟩ := hg 10 _ rfl cellsB
    obtain ⟨z10, rfl⟩ := bool_of t10
    obtain ⟨x11, y11, m11, e11, d11, t11⟩ := hg 11 _ rfl cellsS
    obtain ⟨z11, rfl, w11⟩ := str_of t11 (reach_field (i := 11) Tryz.underlying33 hw rfl d11)
    simp at e0 e1 e2 e3 e4 e5 e6 e7 e8 e9 e10 e11
    subst e0 e1 e2 e3 e4 e5 e6 e7 e8 e9 e10 e11
    exact ⟨⟨z0, z1, z2, z3, z4, z5, z6, z7, z8, z9, z10, z11⟩, rfl, w11, w0, w1, w2, w3, w4, w5, w6, w7, w8, w9⟩
set_option maxHeartbeats 4000000 in
theorem eql_evs (W : World) (x0 : Int) (x1 : Int) (x2 : Int) (x3 : Int) (x4 : Int) (x5 : Int) (x6 : Int) (x7 : Int) (x8 : Int) (x9 : Int) (x10 : Bool) (x11 : List UInt8) (y0 : Int) (y1 : Int) (y2 : Int) (y3 : Int) (y4 : Int) (y5 : Int) (y6 : Int) (y7 : Int) (y8 : Int) (y9 : Int) (y10 : Bool) (y11 : List UInt8) : (binOp .eql 33 (.agg #[.int .i64 x0, .int .i64 x1, .int .i64 x2, .int .i64 x3, .int .i64 x4, .int .i64 x5, .int .i64 x6, .int .i64 x7, .int .i64 x8, .int .i64 x9, .bool x10, .string ⟨x11.toArray⟩]) (.agg #[.int .i64 y0, .int .i64 y1, .int .i64 y2, .int .i64 y3, .int .i64 y4, .int .i64 y5, .int .i64 y6, .int .i64 y7, .int .i64 y8, .int .i64 y9, .bool y10, .string ⟨y11.toArray⟩])).run Tryz.prog W = .ok (.bool (((x0 == y0) && (x1 == y1) && (x2 == y2) && (x3 == y3) && (x4 == y4) && (x5 == y5) && (x6 == y6) && (x7 == y7) && (x8 == y8) && (x9 == y9) && (x10 == y10) && (x11 == y11)))) W := by
  by_cases h0 : x0 = y0
  rotate_left
  · simp [go_sem, h0]
  subst h0
  by_cases h1 : x1 = y1
  rotate_left
  · simp [go_sem, h1]
  subst h1
  by_cases h2 : x2 = y2
  rotate_left
  · simp [go_sem, h2]
  subst h2
  by_cases h3 : x3 = y3
  rotate_left
  · simp [go_sem, h3]
  subst h3
  by_cases h4 : x4 = y4
  rotate_left
  · simp [go_sem, h4]
  subst h4
  by_cases h5 : x5 = y5
  rotate_left
  · simp [go_sem, h5]
  subst h5
  by_cases h6 : x6 = y6
  rotate_left
  · simp [go_sem, h6]
  subst h6
  by_cases h7 : x7 = y7
  rotate_left
  · simp [go_sem, h7]
  subst h7
  by_cases h8 : x8 = y8
  rotate_left
  · simp [go_sem, h8]
  subst h8
  by_cases h9 : x9 = y9
  rotate_left
  · simp [go_sem, h9]
  subst h9
  by_cases h10 : x10 = y10
  rotate_left
  · simp [go_sem, h10]
  subst h10
  by_cases h11 : x11 = y11
  rotate_left
  · simp [go_sem, h11]
  subst h11
  simp [go_sem]
set_option maxHeartbeats 4000000 in
theorem neq_evs (W : World) (x0 : Int) (x1 : Int) (x2 : Int) (x3 : Int) (x4 : Int) (x5 : Int) (x6 : Int) (x7 : Int) (x8 : Int) (x9 : Int) (x10 : Bool) (x11 : List UInt8) (y0 : Int) (y1 : Int) (y2 : Int) (y3 : Int) (y4 : Int) (y5 : Int) (y6 : Int) (y7 : Int) (y8 : Int) (y9 : Int) (y10 : Bool) (y11 : List UInt8) : (binOp .neq 33 (.agg #[.int .i64 x0, .int .i64 x1, .int .i64 x2, .int .i64 x3, .int .i64 x4, .int .i64 x5, .int .i64 x6, .int .i64 x7, .int .i64 x8, .int .i64 x9, .bool x10, .string ⟨x11.toArray⟩]) (.agg #[.int .i64 y0, .int .i64 y1, .int .i64 y2, .int .i64 y3, .int .i64 y4, .int .i64 y5, .int .i64 y6, .int .i64 y7, .int .i64 y8, .int .i64 y9, .bool y10, .string ⟨y11.toArray⟩])).run Tryz.prog W = .ok (.bool (!((x0 == y0) && (x1 == y1) && (x2 == y2) && (x3 == y3) && (x4 == y4) && (x5 == y5) && (x6 == y6) && (x7 == y7) && (x8 == y8) && (x9 == y9) && (x10 == y10) && (x11 == y11)))) W := by
  by_cases h0 : x0 = y0
  rotate_left
  · simp [go_sem, h0]
  subst h0
  by_cases h1 : x1 = y1
  rotate_left
  · simp [go_sem, h1]
  subst h1
  by_cases h2 : x2 = y2
  rotate_left
  · simp [go_sem, h2]
  subst h2
  by_cases h3 : x3 = y3
  rotate_left
  · simp [go_sem, h3]
  subst h3
  by_cases h4 : x4 = y4
  rotate_left
  · simp [go_sem, h4]
  subst h4
  by_cases h5 : x5 = y5
  rotate_left
  · simp [go_sem, h5]
  subst h5
  by_cases h6 : x6 = y6
  rotate_left
  · simp [go_sem, h6]
  subst h6
  by_cases h7 : x7 = y7
  rotate_left
  · simp [go_sem, h7]
  subst h7
  by_cases h8 : x8 = y8
  rotate_left
  · simp [go_sem, h8]
  subst h8
  by_cases h9 : x9 = y9
  rotate_left
  · simp [go_sem, h9]
  subst h9
  by_cases h10 : x10 = y10
  rotate_left
  · simp [go_sem, h10]
  subst h10
  by_cases h11 : x11 = y11
  rotate_left
  · simp [go_sem, h11]
  subst h11
  simp [go_sem]
theorem ev_beq (x y : EvR) : ((x.kind == y.kind) && (x.acct == y.acct) && (x.id == y.id) && (x.new == y.new) && (x.instr == y.instr) && (x.under == y.under) && (x.cur == y.cur) && (x.qty == y.qty) && (x.price == y.price) && (x.amount == y.amount) && (x.call == y.call) && (x.name == y.name)) = decide (x = y) := by
  rw [Bool.eq_iff_iff]
  simp only [Bool.and_eq_true, beq_iff_eq, decide_eq_true_eq]
  constructor
  · cases x; cases y
    simp only
    rintro ⟨⟨⟨⟨⟨⟨⟨⟨⟨⟨⟨rfl, rfl⟩, rfl⟩, rfl⟩, rfl⟩, rfl⟩, rfl⟩, rfl⟩, rfl⟩, rfl⟩, rfl⟩, rfl⟩
    rfl
  · rintro rfl; simp
theorem eql_ev2 (W : World) (x y : EvR) : (binOp .eql 33 (.agg #[.int .i64 x.kind, .int .i64 x.acct, .int .i64 x.id, .int .i64 x.new, .int .i64 x.instr, .int .i64 x.under, .int .i64 x.cur, .int .i64 x.qty, .int .i64 x.price, .int .i64 x.amount, .bool x.call, .string ⟨x.name.toArray⟩]) (.agg #[.int .i64 y.kind, .int .i64 y.acct, .int .i64 y.id, .int .i64 y.new, .int .i64 y.instr, .int .i64 y.under, .int .i64 y.cur, .int .i64 y.qty, .int .i64 y.price, .int .i64 y.amount, .bool y.call, .string ⟨y.name.toArray⟩])).run Tryz.prog W = .ok (.bool (decide (x = y))) W := by rw [eql_evs, ev_beq]
theorem neq_ev2 (W : World) (x y : EvR) : (binOp .neq 33 (.agg #[.int .i64 x.kind, .int .i64 x.acct, .int .i64 x.id, .int .i64 x.new, .int .i64 x.instr, .int .i64 x.under, .int .i64 x.cur, .int .i64 x.qty, .int .i64 x.price, .int .i64 x.amount, .bool x.call, .string ⟨x.name.toArray⟩]) (.agg #[.int .i64 y.kind, .int .i64 y.acct, .int .i64 y.id, .int .i64 y.new, .int .i64 y.instr, .int .i64 y.under, .int .i64 y.cur, .int .i64 y.qty, .int .i64 y.price, .int .i64 y.amount, .bool y.call, .string ⟨y.name.toArray⟩])).run Tryz.prog W = .ok (.bool (!decide (x = y))) W := by rw [neq_evs, ev_beq]
end Go.Proofs.YtocjfjikkdpfdaaGreatDoor.ImgW
