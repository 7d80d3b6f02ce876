/- Readings of bytes: the reader walked, events. -/
import Derived.Test.YtocjfjikkdpfdaaGreatDoorImgAll
import Derived.Laws.BitsAllLaws
import Derived.Deep.DeepCutAuto
import Derived.Deep.CutBlock
set_option linter.unusedSimpArgs false
set_option linter.unusedVariables false
namespace Go.Proofs.YtocjfjikkdpfdaaGreatDoor.ImgW
open Go.RowKit Go.Proofs.YtocjfjikkdpfdaaGreatDoor.Bas Go.Proofs.YtocjfjikkdpfdaaGreatDoor.LedM Go.Proofs.YtocjfjikkdpfdaaGreatDoor.LedW

/-- bytes' number, the least first -/
def valN : List UInt8 → Nat
  | [] => 0
  | b :: r => b.toNat + 256 * valN r
theorem valN_lt : ∀ bs : List UInt8, valN bs < 256 ^ bs.length
  | [] => by simp [valN]
  | b :: r => by
    have h := valN_lt r
    have hb := b.toNat_lt
    rw [List.length_cons, Nat.pow_succ, valN]
    omega
theorem valN_append : ∀ a b : List UInt8, valN (a ++ b) = valN a + 256 ^ a.length * valN b
  | [], b => by simp [valN]
  | x :: a, b => by
    rw [List.cons_append, valN, valN, valN_append a b, List.length_cons, Nat.pow_succ, Nat.mul_add, ← Nat.mul_assoc, Nat.mul_comm 256 (256 ^ a.length)]
    omega
/-- eight bytes' number, with its sign -/
def decN (bs : List UInt8) : Int := wrap64 (valN (bs.take 8))
/-- the next number -/
def rdN (bs : List UInt8) : Except Int (Int × List UInt8) := if bs.length < 8 then .error 10 else .ok (decN bs, bs.drop 8)
/-- the next number, from nought to a most -/
def rdC (most : Int) (bs : List UInt8) : Except Int (Int × List UInt8) := match rdN bs with
  | .error k => .error k
  | .ok (n, r) => if n < 0 ∨ most < n then .error 11 else .ok (n, r)
def rdB (bs : List UInt8) : Except Int (Bool × List UInt8) := match rdC 1 bs with
  | .error k => .error k
  | .ok (n, r) => .ok (decide (n = 1), r)
def rdT (most : Int) (bs : List UInt8) : Except Int (List UInt8 × List UInt8) := match rdC most bs with
  | .error k => .error k
  | .ok (n, r) => if (r.length : Int) < n then .error 10 else .ok (r.take n.toNat, r.drop n.toNat)
theorem rdN_i64 {bs : List UInt8} {x : Int} {r : List UInt8} (h : rdN bs = .ok (x, r)) : FixpW.I64 x := by
  unfold rdN at h
  split at h
  · cases h
  · simp only [Except.ok.injEq, Prod.mk.injEq] at h
    rw [← h.1]
    unfold decN FixpW.I64 wrap64
    omega

/-- what a reading gives up with -/
def up (k : Int) : Value := .iface 92 (.agg #[.int .i64 k])
/-- the reader's box, and the bytes that are left -/
structure Rd (W : World) (g : Nat) (bs : List UInt8) : Prop where
  ex : ∃ a c, Box W g 94 #[.slice a bs.length c] ∧ At W a (u8s bs) ∧ bs.length ≤ c ∧ c ≤ maxLen ∧ ∀ p, a = some p → bs ≠ [] → p.block < g
theorem At.drop {w : World} {b off : Nat} {cs : List Value} (h : At w (some ⟨b, off, none⟩) cs) (n : Nat) : At w (some ⟨b, off + n, none⟩) (cs.drop n) := fun j u hj => by
  rw [List.getElem?_drop] at hj
  obtain ⟨b', off', e, hc⟩ := h _ _ hj
  cases e
  exact ⟨b, off + n, rfl, by rw [Nat.add_assoc]; exact hc⟩
theorem grown_set {w : World} (g j : Nat) (u : Value) : w.grownBy (w.setCell ⟨g, j, none⟩ u) (some g) :=
  ⟨rfl, rfl, rfl, by simp, fun i _ hj => heap_setCell_other w ⟨g, j, none⟩ i u (fun e => hj (by simp [e]))⟩
theorem grown_below {w w' : World} {g : Nat} (h : w.grownBy w' (some g)) {B : Nat} (hB : B ≤ g) (hs : B ≤ w.heap.size) : Below B w w' := (Below.refl _ _).grown h hs (fun k hk => by cases hk; exact hB)
theorem at_grown {w w' : World} {g : Nat} {a : Option Addr} {cs : List Value} (h : At w a cs) (hg : w.grownBy w' (some g)) (hne : ∀ p, a = some p → cs ≠ [] → p.block ≠ g) : At w' a cs := fun j u hj => by
  obtain ⟨b, off, rfl, hc⟩ := h j u hj
  exact ⟨b, off, rfl, hg.cell hc (by simpa using hne _ rfl (fun e => by rw [e] at hj; simp at hj))⟩
theorem box_grown {w w' : World} {g b : Nat} {t : TypeId} {cs : Array Value} (h : Box w b t cs) (hg : w.grownBy w' (some g)) (hne : b ≠ g) : Box w' b t cs := (hg.block b h.lt (by simpa using hne)).trans h
theorem rd_alloc {w : World} {g : Nat} {bs : List UInt8} (h : Rd w g bs) (o : Obj) : Rd (w.alloc o) g bs := by
  obtain ⟨a, c, hb, hat, h1, h2, h3⟩ := h.ex
  exact ⟨a, c, hb.alloc o, hat.keep ((Below.refl _ _).alloc (Nat.le_refl _) o), h1, h2, h3⟩
theorem grown_row {w : World} (g : Nat) (C : Array Value) : w.grownBy (w.setRow g C) (some g) :=
  ⟨rfl, rfl, rfl, by simp, fun i _ hj => setRow_other w g i C (fun e => hj (by simp [e]))⟩
theorem grown_new {a b c : World} {row : Option Nat} {g : Nat} (h : a.grownBy b row) (hg : a.heap.size ≤ g) (k : b.grownBy c (some g)) : a.grownBy c row := h.andThen k (fun j hj => by cases hj; exact .inl hg)
theorem rd_grown {w w' : World} {g b : Nat} {bs : List UInt8} (h : Rd w g bs) (hg : w.grownBy w' (some b)) (hb : g < b) : Rd w' g bs := by
  obtain ⟨a, c, hx, hat, h1, h2, h3⟩ := h.ex
  exact ⟨a, c, box_grown hx hg (by omega), at_grown hat hg (fun p hp hn => by have := h3 p hp (fun e => hn (by rw [e]; rfl)); omega), h1, h2, h3⟩
theorem rd_next {w : World} {g c : Nat} {a : Option Addr} {r : List UInt8} (hb : Box w g 94 #[.slice a r.length c]) (hat : At w a (u8s r)) (hl : ∀ p, a = some p → r ≠ [] → p.block < g) (h1 : r.length ≤ c) (h2 : c ≤ maxLen) (n : Nat) :
    Rd (w.setCell ⟨g, 0, none⟩ (.slice (Option.map (fun x => x.add n) a) (r.length - n) (c - n))) g (r.drop n) := by
  have hlt : ∀ p, Option.map (fun x : Addr => x.add n) a = some p → r.drop n ≠ [] → p.block < g := fun p hp hn => by
    cases a with
    | none => cases hp
    | some q =>
      cases hp
      have := hl q rfl (fun e => hn (by rw [e, List.drop_nil]))
      unfold Addr.add
      split <;> exact this
  refine ⟨_, c - n, ?_, ?_, ?_, by omega, hlt⟩
  · rw [List.length_drop]
    exact hb.set 0 _
  · refine at_grown ?_ (grown_set _ _ _) (fun p hp hn => Nat.ne_of_lt (hlt p hp (fun e => hn (by rw [e]; rfl))))
    intro j u hj
    have hj' : (u8s r)[n + j]? = some u := by
      unfold u8s at hj ⊢
      rw [List.map_drop, List.getElem?_drop] at hj
      exact hj
    obtain ⟨b, off, rfl, hc⟩ := hat _ _ hj'
    unfold Addr.add
    by_cases h0 : n = 0
    · subst h0
      exact ⟨b, off, rfl, by simpa using hc⟩
    · exact ⟨b, off + n, by simp [h0], by rw [Nat.add_assoc]; exact hc⟩
  · rw [List.length_drop]; omega
theorem shl_nat (b : UInt8) (k : Nat) (hk : k < 8) : IntKind.u64.wrap ((b.toNat : Int) * 2 ^ (8 * k)) = ((b.toNat * 256 ^ k : Nat) : Int) := by
  rw [IntKind.wrap_u64]
  have h1 := b.toNat_lt
  have h2 : (2 : Int) ^ (8 * k) = ((256 ^ k : Nat) : Int) := by
    rw [Int.pow_mul]; norm_cast
  have h3 : b.toNat * 256 ^ k < 18446744073709551616 := by
    have : 256 ^ k ≤ 256 ^ 7 := Nat.pow_le_pow_right (by decide) (by omega)
    calc b.toNat * 256 ^ k ≤ 255 * 256 ^ 7 := Nat.mul_le_mul (by omega) this
      _ < _ := by decide
  rw [h2, ← Int.natCast_mul]
  omega
theorem or_high (z y k : Nat) (hk : k < 8) (hz : z < 256 ^ k) (hy : y < 256) : bits BinOp.or IntKind.u64 (z : Int) (IntKind.u64.wrap (IntKind.u64.wrap (y : Int) * 2 ^ (8 * k))) = ((z + 256 ^ k * y : Nat) : Int) := by
  have h0 : IntKind.u64.wrap (y : Int) = y := by rw [IntKind.wrap_u64]; omega
  have h1 := shl_nat (UInt8.ofNat y) k hk
  rw [UInt8.toNat_ofNat', Nat.mod_eq_of_lt (by omega)] at h1
  have h6 : 256 ^ k ≤ 256 ^ 7 := Nat.pow_le_pow_right (by decide) (by omega)
  have h7 : y * 256 ^ k ≤ 255 * 256 ^ 7 := Nat.mul_le_mul (by omega) h6
  have h8 : (256 : Nat) ^ 7 = 72057594037927936 := by decide
  rw [h0, h1, u64_or_nat z (y * 256 ^ k) (by omega) (by omega)]
  have h9 : 256 ^ k = 2 ^ (8 * k) := by rw [Nat.pow_mul]
  have h10 : z ||| (y * 256 ^ k) = y * 256 ^ k + z := by
    rw [h9] at hz ⊢
    rw [Nat.or_comm, ← Nat.shiftLeft_eq, Nat.shiftLeft_add_eq_or_of_lt hz]
  rw [h10, Nat.mul_comm y, Nat.add_comm]
theorem valN_step (bs : List UInt8) (k : Nat) (hk : k < bs.length) : valN (bs.take (k + 1)) = valN (bs.take k) + 256 ^ k * bs[k].toNat := by
  rw [List.take_succ_eq_append_getElem hk, valN_append, List.length_take, Nat.min_eq_left (by omega)]
  simp [valN]
set_option maxHeartbeats 1000000 in
theorem number_no (g : Nat) (bs : List UInt8) (w : World) (h : Rd w g bs) (hl : bs.length < 8) :
    Calls Tryz.prog 46 #[.pointer (some ⟨g, 0, none⟩)] w fun e w' => e = .panicked [{ v := up 10, recovered := false }] ∧ w' = w := by
  obtain ⟨a, c, hb, hat, h1, h2, h3⟩ := h.ex
  have c0 := hb.cell 0
  go_enter Tryz.func46, Tryz.ntmps46
  go_wp2_with fail
  exact ⟨rfl, rfl, rfl⟩
set_option maxRecDepth 100000 in
set_option maxHeartbeats 1000000 in
theorem number_ok (g : Nat) (bs : List UInt8) (w : World) (h : Rd w g bs) (hl : 8 ≤ bs.length) :
    Calls Tryz.prog 46 #[.pointer (some ⟨g, 0, none⟩)] w fun e w' => e = .returned (.int .i64 (decN bs)) ∧ w.grownBy w' (some g) ∧ Rd w' g (bs.drop 8) := by
  obtain ⟨a, c, hb, hat, h1, h2, h3⟩ := h.ex
  have c0 := hb.cell 0
  have f0 := hb.frozen 0
  have HA := Lib.hid hat
  clear hat
  go_enter Tryz.func46, Tryz.ntmps46
  go_upto_region 4 with fail
  go_wp2_with fail
  go_loopw [3, 13] (fun x i wr => ∃ k : Nat, k ≤ 8 ∧ i = .int .i64 k ∧ wr = w ∧ x = .int .u64 (valN (bs.take k))) (fun _ i _ => 8 - (intOf i).toNat)
  case atStart => exact ⟨0, by omega, rfl, rfl, rfl⟩
  case round =>
    obtain ⟨k, hk, rfl, rfl, rfl⟩ := hrel
    by_cases hlt : k < 8
    · have hlb : k < bs.length := by omega
      obtain ⟨b, off, rfl, hcell⟩ := HA.out k _ (u8s_at bs k hlb)
      replace c0 : wr.cell? ⟨g, 0, none⟩ = some (.slice (some ⟨b, off, none⟩) bs.length c) := c0
      clear h3 hb HA
      have HV := Lib.hid (valN_step bs k hlb)
      have HB := Lib.hid (bs[k].toNat_lt)
      have HZ := Lib.hid (valN_lt (bs.take k))
      generalize bs[k].toNat = y at *
      generalize valN (bs.take k) = z at *
      go_wp2_with fail
      go_roundw
      case rel =>
        refine ⟨k + 1, by omega, by go_num, trivial, ?_⟩
        have := HZ.out
        rw [List.length_take, Nat.min_eq_left (by omega)] at this
        rw [or_high z y k hlt this HB.out, HV.out]
      case measure => simp [intOf]; omega
    · obtain rfl : k = 8 := by omega
      replace c0 : wr.cell? ⟨g, 0, none⟩ = some (.slice a bs.length c) := c0
      obtain ⟨b, off, rfl, _⟩ := HA.out 0 _ (u8s_at bs 0 (by omega))
      have HX : Hid (decN bs = wrap64 (valN (bs.take 8))) := rfl
      generalize valN (bs.take 8) = z at *
      have HB := Lib.hid hb
      have H3 := Lib.hid (h3 _ rfl (by intro e; rw [e] at hl; simp at hl))
      clear h3 hb
      go_wp2_with fail
      · have h9 : bs.length = 8 := by omega
        have h8 : bs.drop 8 = [] := List.drop_eq_nil_of_le (by omega)
        go_ret
        refine ⟨by rw [HX.out]; first | done | rfl, grown_set _ _ _, ⟨some ⟨b, off, none⟩, 0, ?_, ?_, ?_, by omega, ?_⟩⟩
        · rw [List.length_drop]
          exact HB.out.set 0 _
        · rw [h8]; exact At.nil _ _
        · rw [h8]; simp
        · intro p hp _; cases hp; exact H3.out
      · go_ret
        refine ⟨by rw [HX.out]; first | done | rfl, grown_set _ _ _, ⟨some ⟨b, off + 8, none⟩, c - 8, ?_, ?_, ?_, by omega, ?_⟩⟩
        · rw [List.length_drop]
          exact HB.out.set 0 _
        · have := At.drop HA.out 8
          rw [show (u8s bs).drop 8 = u8s (bs.drop 8) from List.map_drop.symm] at this
          exact at_grown this (grown_set _ _ _) (fun p hp _ => by cases hp; exact Nat.ne_of_lt H3.out)
        · rw [List.length_drop]; omega
        · intro p hp _; cases hp; exact H3.out
/-- the reader's number -/
theorem number_rd (g : Nat) (bs : List UInt8) (w : World) (h : Rd w g bs) :
    Calls Tryz.prog 46 #[.pointer (some ⟨g, 0, none⟩)] w fun e w' => w.grownBy w' (some g) ∧
      ((∃ k, rdN bs = .error k ∧ e = .panicked [{ v := up k, recovered := false }]) ∨ ∃ x r, rdN bs = .ok (x, r) ∧ e = .returned (.int .i64 x) ∧ Rd w' g r ∧ FixpW.I64 x) := by
  by_cases hl : bs.length < 8
  · have e : rdN bs = .error 10 := if_pos hl
    refine (number_no g bs w h hl).mono ?_
    rintro _ w' ⟨rfl, rfl⟩
    exact ⟨World.grownBy.refl _ _, .inl ⟨10, e, rfl⟩⟩
  · have e : rdN bs = .ok (decN bs, bs.drop 8) := if_neg hl
    refine (number_ok g bs w h (by omega)).mono ?_
    rintro _ w' ⟨rfl, h1, h2⟩
    exact ⟨h1, .inr ⟨_, _, e, rfl, h2, rdN_i64 e⟩⟩
set_option maxRecDepth 100000 in
set_option maxHeartbeats 1000000 in
/-- the reader's count -/
theorem count_rd (g : Nat) (bs : List UInt8) (m : Int) (w : World) (h : Rd w g bs) :
    Calls Tryz.prog 47 #[.pointer (some ⟨g, 0, none⟩), .int .i64 m] w fun e w' => w.grownBy w' (some g) ∧
      ((∃ k, rdC m bs = .error k ∧ e = .panicked [{ v := up k, recovered := false }]) ∨ ∃ x r, rdC m bs = .ok (x, r) ∧ e = .returned (.int .i64 x) ∧ Rd w' g r ∧ 0 ≤ x ∧ x ≤ m) := by
  have N := Lib.hid (number_rd g bs w h)
  clear h
  go_enter Tryz.func47, Tryz.ntmps47
  go_upto_region 2 with (go_at_call 46; refine N.out.mono ?_; rintro e w1 ⟨g1, ⟨k, h1, rfl⟩ | ⟨x, r, h1, rfl, rd1, i1⟩⟩)
  · exact ⟨rfl, g1, .inl ⟨k, by unfold rdC; rw [h1], rfl⟩⟩
  have HC : Hid (rdC m bs = if x < 0 ∨ m < x then .error 11 else .ok (x, r)) := by unfold Hid rdC; rw [h1]
  clear N h1
  by_cases hx : x < 0
  · go_wp2_with fail
    exact ⟨rfl, g1, .inl ⟨11, by rw [HC.out, if_pos (.inl hx)], rfl⟩⟩
  · by_cases hm : m < x
    · go_wp2_with fail
      exact ⟨rfl, g1, .inl ⟨11, by rw [HC.out, if_pos (.inr hm)], rfl⟩⟩
    · go_wp2_with fail
      go_ret
      exact ⟨g1, .inr ⟨x, r, by rw [HC.out, if_neg (by omega)], rfl, rd1, by omega, by omega⟩⟩
/-- the reader's bit -/
theorem bit_rd (g : Nat) (bs : List UInt8) (w : World) (h : Rd w g bs) :
    Calls Tryz.prog 49 #[.pointer (some ⟨g, 0, none⟩)] w fun e w' => w.grownBy w' (some g) ∧
      ((∃ k, rdB bs = .error k ∧ e = .panicked [{ v := up k, recovered := false }]) ∨ ∃ x r, rdB bs = .ok (x, r) ∧ e = .returned (.bool x) ∧ Rd w' g r) := by
  have N := Lib.hid (count_rd g bs 1 w h)
  clear h
  go_enter Tryz.func49, Tryz.ntmps49
  go_wp2_with (go_at_call 47; refine N.out.mono ?_; rintro e w1 ⟨g1, ⟨k, h1, rfl⟩ | ⟨x, r, h1, rfl, rd1, i1⟩⟩)
  · exact ⟨rfl, g1, .inl ⟨k, by unfold rdB; rw [h1], rfl⟩⟩
  · go_ret
    refine ⟨g1, .inr ⟨decide (x = 1), r, by unfold rdB; rw [h1], rfl, rd1⟩⟩
set_option maxRecDepth 100000 in
set_option maxHeartbeats 1000000 in
/-- the reader's text -/
theorem text_rd (g : Nat) (bs : List UInt8) (m : Nat) (hm : m ≤ 1000000) (w : World) (h : Rd w g bs) :
    Calls Tryz.prog 48 #[.pointer (some ⟨g, 0, none⟩), .int .i64 m] w fun e w' => w.grownBy w' (some g) ∧
      ((∃ k, rdT m bs = .error k ∧ e = .panicked [{ v := up k, recovered := false }]) ∨ ∃ s r, rdT m bs = .ok (s, r) ∧ e = .returned (.string ⟨s.toArray⟩) ∧ Rd w' g r ∧ s.length ≤ m) := by
  have N := Lib.hid (count_rd g bs m w h)
  clear h
  go_enter Tryz.func48, Tryz.ntmps48
  go_upto_region 2 with (go_at_call 47; refine N.out.mono ?_; rintro e w1 ⟨g1, ⟨k, h1, rfl⟩ | ⟨x, r, h1, rfl, rd1, i1, i2⟩⟩)
  · exact ⟨rfl, g1, .inl ⟨k, by unfold rdT; rw [h1], rfl⟩⟩
  have HC : Hid (rdT m bs = if (r.length : Int) < x then .error 10 else .ok (r.take x.toNat, r.drop x.toNat)) := by unfold Hid rdT; rw [h1]
  clear N h1
  obtain ⟨n, rfl⟩ := Int.eq_ofNat_of_zero_le i1
  obtain ⟨a, c, hb, hat, h1, h2, h3⟩ := rd1.ex
  have c0 : w1.cell? ⟨g, 0, none⟩ = some (.slice a r.length c) := hb.cell 0
  have f0 := hb.frozen 0
  by_cases hs : r.length < n
  · have hE : Hid (rdT m bs = .error 10) := by unfold Hid; rw [HC.out, if_pos (by omega)]
    clear HC hat h3
    go_wp2_with fail
    exact ⟨rfl, g1, .inl ⟨10, hE.out, rfl⟩⟩
  · have hE : Hid (rdT m bs = .ok (r.take n, r.drop n)) := by unfold Hid; rw [HC.out, if_neg (by omega)]; rfl
    have HB := Lib.hid hb
    have HA := Lib.hid hat
    have H3 := Lib.hid h3
    have hln : (r.take n).length = n := by rw [List.length_take]; omega
    have hcv := run_str_at w1 Tryz.underlying37 Tryz.underlying5 Tryz.underlying9 a c (r.take n) (by have := hat.take n; rwa [show (u8s r).take n = u8s (r.take n) from List.map_take.symm] at this)
    rw [hln] at hcv
    generalize r.take n = s at *
    clear HC hat h3 hb
    go_wp2_with fail
    · go_ret
      have hrn : r.drop n = [] := List.drop_eq_nil_of_le (by omega)
      have h0 : r.length - n = 0 := by omega
      refine ⟨g1.trans (grown_set _ _ _), .inr ⟨s, r.drop n, hE.out, rfl, ⟨a, 0, ?_, ?_, ?_, by omega, fun _ _ h => absurd hrn h⟩, by omega⟩⟩
      · rw [List.length_drop]
        exact HB.out.set 0 _
      · rw [hrn]; exact At.nil _ _
      · rw [hrn]; simp
    · go_ret
      exact ⟨g1.trans (grown_set _ _ _), .inr ⟨s, r.drop n, hE.out, rfl, rd_next HB.out HA.out H3.out h1 h2 n, by omega⟩⟩
end Go.Proofs.YtocjfjikkdpfdaaGreatDoor.ImgW
namespace Go.Proofs.YtocjfjikkdpfdaaGreatDoor.ImgW
open Go.RowKit Go.Proofs.YtocjfjikkdpfdaaGreatDoor.Bas Go.Proofs.YtocjfjikkdpfdaaGreatDoor.LedM Go.Proofs.YtocjfjikkdpfdaaGreatDoor.LedW

/-- a reading, and one behind it -/
def thn {α β : Type} (m : Except Int (α × List UInt8)) (f : α → List UInt8 → Except Int β) : Except Int β := match m with
  | .error k => .error k
  | .ok (x, r) => f x r
theorem thn_ok {α β : Type} {m : Except Int (α × List UInt8)} {f : α → List UInt8 → Except Int β} {x : α} {r : List UInt8} (h : m = .ok (x, r)) : thn m f = f x r := by rw [h]; rfl
theorem thn_err {α β : Type} {m : Except Int (α × List UInt8)} {f : α → List UInt8 → Except Int β} {k : Int} (h : m = .error k) : thn m f = .error k := by rw [h]; rfl
/-- the event of bytes, and what is left of them -/
def rdE (bs : List UInt8) : Except Int (EvR × List UInt8) := thn (rdC 16 bs) fun x0 b => thn (rdN b) fun x1 b => thn (rdN b) fun x2 b => thn (rdN b) fun x3 b => thn (rdN b) fun x4 b => thn (rdN b) fun x5 b => thn (rdN b) fun x6 b => thn (rdN b) fun x7 b => thn (rdN b) fun x8 b => thn (rdN b) fun x9 b => thn (rdB b) fun x10 b => thn (rdT 8 b) fun x11 b => if x0 = 0 then .error 11 else .ok (⟨x0, x1, x2, x3, x4, x5, x6, x7, x8, x9, x10, x11⟩, b)
set_option maxRecDepth 100000 in
set_option maxHeartbeats 4000000 in
theorem event_rd (g : Nat) (bs : List UInt8) (w : World) (h : Rd w g bs) :
    Calls Tryz.prog 36 #[.pointer (some ⟨g, 0, none⟩)] w fun e w' => w.grownBy w' (some g) ∧
      ((∃ k, rdE bs = .error k ∧ e = .panicked [{ v := up k, recovered := false }]) ∨ ∃ x r, rdE bs = .ok (x, r) ∧ e = .returned (evV x) ∧ Rd w' g r ∧ EvFit x) := by
  obtain ⟨q, hq⟩ : ∃ q, q = rdE bs := ⟨_, rfl⟩
  rw [← hq]
  unfold rdE at hq
  have E0 := Lib.hid hq
  clear hq
  have hbox := Box.new w 33 #[.int .i64 0, .int .i64 0, .int .i64 0, .int .i64 0, .int .i64 0, .int .i64 0, .int .i64 0, .int .i64 0, .int .i64 0, .int .i64 0, .bool false, .string ⟨#[]⟩]
  have hlt : g < w.heap.size := by obtain ⟨a, c, hb, _⟩ := h.ex; exact hb.lt
  have GW := Lib.hid (World.grownBy_alloc w (.cells #[.int .i64 0, .int .i64 0, .int .i64 0, .int .i64 0, .int .i64 0, .int .i64 0, .int .i64 0, .int .i64 0, .int .i64 0, .int .i64 0, .bool false, .string ⟨#[]⟩] 33) (some g))
  have RD0 := Lib.hid (rd_alloc h (.cells #[.int .i64 0, .int .i64 0, .int .i64 0, .int .i64 0, .int .i64 0, .int .i64 0, .int .i64 0, .int .i64 0, .int .i64 0, .int .i64 0, .bool false, .string ⟨#[]⟩] 33))
  clear h
  unfold evV
  go_enter Tryz.func36, Tryz.ntmps36
  go_upto_region 1 with fail
  have hz0 : (w.alloc (.cells #[.int .i64 0, .int .i64 0, .int .i64 0, .int .i64 0, .int .i64 0, .int .i64 0, .int .i64 0, .int .i64 0, .int .i64 0, .int .i64 0, .bool false, .string ⟨#[]⟩] 33)).heap.size = w.heap.size + 1 := World.size_alloc _ _
  generalize w.alloc (.cells #[.int .i64 0, .int .i64 0, .int .i64 0, .int .i64 0, .int .i64 0, .int .i64 0, .int .i64 0, .int .i64 0, .int .i64 0, .int .i64 0, .bool false, .string ⟨#[]⟩] 33) = w0 at *
  have HB := Lib.hid hbox
  have G0 := Lib.hid (World.grownBy.refl w0 (some g))
  clear hbox
  go_upto_region 2 with (first | (go_at_call 49; refine (bit_rd g _ _ RD10.out).mono ?_; rintro e w11 ⟨g11, ⟨k, h11, rfl⟩ | ⟨x11, r11, h11, rfl, rd11⟩⟩; exact ⟨rfl, GW.out.trans (G10.out.trans g11), .inl ⟨k, E10.out.trans (thn_err h11), rfl⟩⟩; have G11 := Lib.hid (G10.out.trans g11); have E11 := Lib.hid (E10.out.trans (thn_ok h11)); have RD11 := Lib.hid rd11; clear g11 h11 rd11 E10 G10 RD10) | (go_at_call 46; refine (number_rd g _ _ RD9.out).mono ?_; rintro e w10 ⟨g10, ⟨k, h10, rfl⟩ | ⟨x10, r10, h10, rfl, rd10, i9⟩⟩; exact ⟨rfl, GW.out.trans (G9.out.trans g10), .inl ⟨k, E9.out.trans (thn_err h10), rfl⟩⟩; have G10 := Lib.hid (G9.out.trans g10); have E10 := Lib.hid (E9.out.trans (thn_ok h10)); have RD10 := Lib.hid rd10; clear g10 h10 rd10 E9 G9 RD9) | (go_at_call 46; refine (number_rd g _ _ RD8.out).mono ?_; rintro e w9 ⟨g9, ⟨k, h9, rfl⟩ | ⟨x9, r9, h9, rfl, rd9, i8⟩⟩; exact ⟨rfl, GW.out.trans (G8.out.trans g9), .inl ⟨k, E8.out.trans (thn_err h9), rfl⟩⟩; have G9 := Lib.hid (G8.out.trans g9); have E9 := Lib.hid (E8.out.trans (thn_ok h9)); have RD9 := Lib.hid rd9; clear g9 h9 rd9 E8 G8 RD8) | (go_at_call 46; refine (number_rd g _ _ RD7.out).mono ?_; rintro e w8 ⟨g8, ⟨k, h8, rfl⟩ | ⟨x8, r8, h8, rfl, rd8, i7⟩⟩; exact ⟨rfl, GW.out.trans (G7.out.trans g8), .inl ⟨k, E7.out.trans (thn_err h8), rfl⟩⟩; have G8 := Lib.hid (G7.out.trans g8); have E8 := Lib.hid (E7.out.trans (thn_ok h8)); have RD8 := Lib.hid rd8; clear g8 h8 rd8 E7 G7 RD7) | (go_at_call 46; refine (number_rd g _ _ RD6.out).mono ?_; rintro e w7 ⟨g7, ⟨k, h7, rfl⟩ | ⟨x7, r7, h7, rfl, rd7, i6⟩⟩; exact ⟨rfl, GW.out.trans (G6.out.trans g7), .inl ⟨k, E6.out.trans (thn_err h7), rfl⟩⟩; have G7 := Lib.hid (G6.out.trans g7); have E7 := Lib.hid (E6.out.trans (thn_ok h7)); have RD7 := Lib.hid rd7; clear g7 h7 rd7 E6 G6 RD6) | (go_at_call 46; refine (number_rd g _ _ RD5.out).mono ?_; rintro e w6 ⟨g6, ⟨k, h6, rfl⟩ | ⟨x6, r6, h6, rfl, rd6, i5⟩⟩; exact ⟨rfl, GW.out.trans (G5.out.trans g6), .inl ⟨k, E5.out.trans (thn_err h6), rfl⟩⟩; have G6 := Lib.hid (G5.out.trans g6); have E6 := Lib.hid (E5.out.trans (thn_ok h6)); have RD6 := Lib.hid rd6; clear g6 h6 rd6 E5 G5 RD5) | (go_at_call 46; refine (number_rd g _ _ RD4.out).mono ?_; rintro e w5 ⟨g5, ⟨k, h5, rfl⟩ | ⟨x5, r5, h5, rfl, rd5, i4⟩⟩; exact ⟨rfl, GW.out.trans (G4.out.trans g5), .inl ⟨k, E4.out.trans (thn_err h5), rfl⟩⟩; have G5 := Lib.hid (G4.out.trans g5); have E5 := Lib.hid (E4.out.trans (thn_ok h5)); have RD5 := Lib.hid rd5; clear g5 h5 rd5 E4 G4 RD4) | (go_at_call 46; refine (number_rd g _ _ RD3.out).mono ?_; rintro e w4 ⟨g4, ⟨k, h4, rfl⟩ | ⟨x4, r4, h4, rfl, rd4, i3⟩⟩; exact ⟨rfl, GW.out.trans (G3.out.trans g4), .inl ⟨k, E3.out.trans (thn_err h4), rfl⟩⟩; have G4 := Lib.hid (G3.out.trans g4); have E4 := Lib.hid (E3.out.trans (thn_ok h4)); have RD4 := Lib.hid rd4; clear g4 h4 rd4 E3 G3 RD3) | (go_at_call 46; refine (number_rd g _ _ RD2.out).mono ?_; rintro e w3 ⟨g3, ⟨k, h3, rfl⟩ | ⟨x3, r3, h3, rfl, rd3, i2⟩⟩; exact ⟨rfl, GW.out.trans (G2.out.trans g3), .inl ⟨k, E2.out.trans (thn_err h3), rfl⟩⟩; have G3 := Lib.hid (G2.out.trans g3); have E3 := Lib.hid (E2.out.trans (thn_ok h3)); have RD3 := Lib.hid rd3; clear g3 h3 rd3 E2 G2 RD2) | (go_at_call 46; refine (number_rd g _ _ RD1.out).mono ?_; rintro e w2 ⟨g2, ⟨k, h2, rfl⟩ | ⟨x2, r2, h2, rfl, rd2, i1⟩⟩; exact ⟨rfl, GW.out.trans (G1.out.trans g2), .inl ⟨k, E1.out.trans (thn_err h2), rfl⟩⟩; have G2 := Lib.hid (G1.out.trans g2); have E2 := Lib.hid (E1.out.trans (thn_ok h2)); have RD2 := Lib.hid rd2; clear g2 h2 rd2 E1 G1 RD1) | (go_at_call 47; refine (count_rd g _ 16 _ RD0.out).mono ?_; rintro e w1 ⟨g1, ⟨k, h1, rfl⟩ | ⟨x1, r1, h1, rfl, rd1, i0, j0⟩⟩; exact ⟨rfl, GW.out.trans (G0.out.trans g1), .inl ⟨k, E0.out.trans (thn_err h1), rfl⟩⟩; have G1 := Lib.hid (G0.out.trans g1); have E1 := Lib.hid (E0.out.trans (thn_ok h1)); have RD1 := Lib.hid rd1; clear g1 h1 rd1 E0 G0 RD0))
  have GA := Lib.hid (World.grownBy_alloc w11 (.cells #[.int .i64 x1, .int .i64 x2, .int .i64 x3, .int .i64 x4, .int .i64 x5, .int .i64 x6, .int .i64 x7, .int .i64 x8, .int .i64 x9, .int .i64 x10, .bool x11, .string ⟨#[]⟩] 33) (some g))
  have RDA := Lib.hid (rd_alloc RD11.out (.cells #[.int .i64 x1, .int .i64 x2, .int .i64 x3, .int .i64 x4, .int .i64 x5, .int .i64 x6, .int .i64 x7, .int .i64 x8, .int .i64 x9, .int .i64 x10, .bool x11, .string ⟨#[]⟩] 33))
  have HV := Lib.hid (Box.new w11 33 #[.int .i64 x1, .int .i64 x2, .int .i64 x3, .int .i64 x4, .int .i64 x5, .int .i64 x6, .int .i64 x7, .int .i64 x8, .int .i64 x9, .int .i64 x10, .bool x11, .string ⟨#[]⟩])
  have HB2 := Lib.hid ((box_grown HB.out G11.out (by omega)).alloc (.cells #[.int .i64 x1, .int .i64 x2, .int .i64 x3, .int .i64 x4, .int .i64 x5, .int .i64 x6, .int .i64 x7, .int .i64 x8, .int .i64 x9, .int .i64 x10, .bool x11, .string ⟨#[]⟩] 33))
  have GG := Lib.hid (GW.out.trans (G11.out.trans GA.out))
  have hz1 := G11.out.size
  clear GA G11 RD11 HB GW
  generalize w11.alloc (.cells #[.int .i64 x1, .int .i64 x2, .int .i64 x3, .int .i64 x4, .int .i64 x5, .int .i64 x6, .int .i64 x7, .int .i64 x8, .int .i64 x9, .int .i64 x10, .bool x11, .string ⟨#[]⟩] 33) = wa at *
  generalize w11.heap.size = gv at *
  have TX := Lib.hid (text_rd g r11 8 (by decide) wa RDA.out)
  simp only [Int.cast_ofNat_Int] at TX
  clear RDA
  go_upto_region 3 with (go_at_call 48; refine TX.out.mono ?_; rintro e wb ⟨g12, ⟨k, h12, rfl⟩ | ⟨s, r12, h12, rfl, rd12, hs⟩⟩; exact ⟨rfl, GG.out.trans g12, .inl ⟨k, E11.out.trans (thn_err h12), rfl⟩⟩; have HV2 := Lib.hid (box_grown HV.out g12 (by omega)); have k11 : wb.cell? ⟨gv, 11, none⟩ = some (.string ⟨#[]⟩) := HV2.out.cell 11; have f11 := HV2.out.frozen 11)
  have HV3 : Hid (Box (wb.setCell ⟨gv, 11, none⟩ (.string ⟨s.toArray⟩)) gv 33 #[.int .i64 x1, .int .i64 x2, .int .i64 x3, .int .i64 x4, .int .i64 x5, .int .i64 x6, .int .i64 x7, .int .i64 x8, .int .i64 x9, .int .i64 x10, .bool x11, .string ⟨s.toArray⟩]) := HV2.out.set 11 _
  have HB3 := Lib.hid ((box_grown HB2.out g12 (by omega)).far (p := ⟨gv, 11, none⟩) (by simp; omega) (.string ⟨s.toArray⟩))
  have GG3 := Lib.hid (grown_new (GG.out.trans g12) (by omega) (grown_set gv 11 (.string ⟨s.toArray⟩)))
  have RD3 := Lib.hid (rd_grown rd12 (grown_set gv 11 (.string ⟨s.toArray⟩)) (by omega))
  have E12 := Lib.hid (E11.out.trans (thn_ok h12))
  clear TX HV HV2 HB2 GG g12 rd12 h12 E11 k11 f11
  generalize wb.setCell ⟨gv, 11, none⟩ (.string ⟨s.toArray⟩) = wc at *
  have k0 : wc.cell? ⟨gv, 0, none⟩ = some (.int .i64 x1) := HV3.out.cell 0
  by_cases hk : x1 = 0
  · have EE := Lib.hid (E12.out.trans (if_pos hk))
    subst hk
    clear E12
    go_wp2_with fail
    exact ⟨rfl, GG3.out, .inl ⟨11, EE.out, rfl⟩⟩
  · have EE := Lib.hid (E12.out.trans (if_neg hk))
    have hkb : (x1 == 0) = false := by simpa using hk
    clear E12 hk
    go_wp2_with (first | ((with_reducible refine wpList_load_box rfl 33 (.tmp 3) rfl HV3.out Tryz.underlying33 ?_ ?_ ?_ ?_); (· rfl); (· kernel_rfl); (· rfl)) | ((with_reducible refine wpList_store_box rfl 33 (.tmp 2) (.tmp 35) rfl #[.int .i64 x1, .int .i64 x2, .int .i64 x3, .int .i64 x4, .int .i64 x5, .int .i64 x6, .int .i64 x7, .int .i64 x8, .int .i64 x9, .int .i64 x10, .bool x11, .string ⟨s.toArray⟩] HB3.out ?_ ?_ ?_ ?_ ?_ ?_); (· kernel_rfl); (· rfl); (· simp [Value.oneCell']); (· rfl); (· rfl)))
    refine bodyPost_ret (results_cell (by rfl) _ _ (HB3.out.row #[.int .i64 x1, .int .i64 x2, .int .i64 x3, .int .i64 x4, .int .i64 x5, .int .i64 x6, .int .i64 x7, .int .i64 x8, .int .i64 x9, .int .i64 x10, .bool x11, .string ⟨s.toArray⟩]) Tryz.underlying33 rfl (by kernel_rfl) rfl) rfl ⟨grown_new GG3.out (Nat.le_refl _) (grown_row _ _), .inr ⟨⟨x1, x2, x3, x4, x5, x6, x7, x8, x9, x10, x11, s⟩, _, EE.out, rfl, rd_grown RD3.out (grown_row _ _) hlt, ⟨by show s.length ≤ _; omega, ⟨by show (-9223372036854775808 : Int) ≤ x1; omega, by show x1 ≤ 9223372036854775807; omega⟩, i1, i2, i3, i4, i5, i6, i7, i8, i9⟩⟩⟩
end Go.Proofs.YtocjfjikkdpfdaaGreatDoor.ImgW
namespace Go.Proofs.YtocjfjikkdpfdaaGreatDoor.ImgW
open Go.RowKit Go.Proofs.YtocjfjikkdpfdaaGreatDoor.Bas Go.Proofs.YtocjfjikkdpfdaaGreatDoor.LedM Go.Proofs.YtocjfjikkdpfdaaGreatDoor.LedW

set_option maxRecDepth 100000 in
/-- the deferred closure of a reading that returned -/
theorem evdoor_ok (be bx : Nat) (w : World) :
    CallsD Tryz.prog 59 #[.pointer (some ⟨bx, 0, none⟩), .pointer (some ⟨be, 0, none⟩)] .returning w fun e u' w' => e = .returned (.tuple #[]) ∧ u' = .returning ∧ w' = w.alloc (.cells #[.int .i64 0, .int .i64 0, .int .i64 0, .int .i64 0, .int .i64 0, .int .i64 0, .int .i64 0, .int .i64 0, .int .i64 0, .int .i64 0, .bool false, .string ⟨#[]⟩] 33) := by
  have hq : ∀ (w : World), (binOp BinOp.eql 20 .nilIface .nilIface).run Tryz.prog w = .ok (.bool true) w := fun _ => rfl
  refine callsD_of_wpS Tryz.func59 rfl fun c₀ cs hu => ?_
  apply wpS_seq
  apply wpS_region
  simp [wpOpsS, go_sem, hu, Tryz.ntmps59, Exit.thenS]
  apply wpS_seq
  apply wpS_region
  simp [wpOpsS, go_sem, recoverD, hu, Exit.thenS]
  refine wpS_of_wp ?_
  change Code.wp _ _ _ ⟨#[.pointer (some ⟨bx, 0, none⟩), .pointer (some ⟨be, 0, none⟩), .pointer (some ⟨w.heap.size, 0, none⟩), undef, undef, undef, .nilIface, undef, undef, undef, undef, undef, undef, undef, undef], []⟩ _
  go_wp2_with fail
  cases c₀
  simp_all [bodyPostS, results, Tryz.results59]
set_option maxRecDepth 100000 in
/-- the deferred closure of a reading that was given up -/
theorem evdoor_up (be bx : Nat) (w : World) (k y : Int) (C : Array Value) (hC : C.size = 12) (hne : bx ≠ be) (he : Box w be 38 #[.int .i64 y]) (hx : Box w bx 33 C) :
    CallsD Tryz.prog 59 #[.pointer (some ⟨bx, 0, none⟩), .pointer (some ⟨be, 0, none⟩)] (.panicking [{ v := up k, recovered := false }]) w fun e u' w' => e = .returned (.tuple #[]) ∧ u' = .panicking [{ v := up k, recovered := true }] ∧ Box w' be 38 #[.int .i64 k] ∧ Box w' bx 33 #[.int .i64 0, .int .i64 0, .int .i64 0, .int .i64 0, .int .i64 0, .int .i64 0, .int .i64 0, .int .i64 0, .int .i64 0, .int .i64 0, .bool false, .string ⟨#[]⟩] ∧ ∀ B, B ≤ be → B ≤ bx → Below B w w' := by
  refine callsD_of_wpS Tryz.func59 rfl fun c₀ cs hu => ?_
  apply wpS_seq
  apply wpS_region
  simp [wpOpsS, go_sem, hu, Tryz.ntmps59, Exit.thenS]
  apply wpS_seq
  apply wpS_region
  simp [wpOpsS, go_sem, recoverD, hu, Exit.thenS]
  refine wpS_of_wp ?_
  unfold up
  change Code.wp _ _ _ ⟨#[.pointer (some ⟨bx, 0, none⟩), .pointer (some ⟨be, 0, none⟩), .pointer (some ⟨w.heap.size, 0, none⟩), undef, undef, undef, .iface 92 (.agg #[.int .i64 k]), undef, undef, undef, undef, undef, undef, undef, undef], []⟩ _
  have hq : ∀ (t : TypeId) (v : Value) (w : World), (binOp BinOp.eql 20 (.iface t v) .nilIface).run Tryz.prog w = .ok (.bool false) w := fun _ _ _ => rfl
  have hta : ∀ (v : Value) (w : World), (Instr.typeAssert (.iface 92 v) 20 92 true).run Tryz.prog w = .ok (.tuple #[v, .bool true]) w := fun _ _ => rfl
  have h1 := he.lt
  have h2 := hx.lt
  have n1 : Box ((w.alloc (.cells #[.int .i64 0, .int .i64 0, .int .i64 0, .int .i64 0, .int .i64 0, .int .i64 0, .int .i64 0, .int .i64 0, .int .i64 0, .int .i64 0, .bool false, .string ⟨#[]⟩] 33)).alloc (.cells #[.int .i64 k] 92)) w.heap.size 33 #[.int .i64 0, .int .i64 0, .int .i64 0, .int .i64 0, .int .i64 0, .int .i64 0, .int .i64 0, .int .i64 0, .int .i64 0, .int .i64 0, .bool false, .string ⟨#[]⟩] := (Box.new w _ _).alloc _
  have n2 : Box ((w.alloc (.cells #[.int .i64 0, .int .i64 0, .int .i64 0, .int .i64 0, .int .i64 0, .int .i64 0, .int .i64 0, .int .i64 0, .int .i64 0, .int .i64 0, .bool false, .string ⟨#[]⟩] 33)).alloc (.cells #[.int .i64 k] 92)) (w.heap.size + 1) 92 #[.int .i64 k] := by
    have := Box.new (w.alloc (.cells #[.int .i64 0, .int .i64 0, .int .i64 0, .int .i64 0, .int .i64 0, .int .i64 0, .int .i64 0, .int .i64 0, .int .i64 0, .int .i64 0, .bool false, .string ⟨#[]⟩] 33)) 92 #[.int .i64 k]
    rwa [World.size_alloc] at this
  have n3 := (he.alloc (.cells #[.int .i64 0, .int .i64 0, .int .i64 0, .int .i64 0, .int .i64 0, .int .i64 0, .int .i64 0, .int .i64 0, .int .i64 0, .int .i64 0, .bool false, .string ⟨#[]⟩] 33)).alloc (.cells #[.int .i64 k] 92)
  have n4 := (hx.alloc (.cells #[.int .i64 0, .int .i64 0, .int .i64 0, .int .i64 0, .int .i64 0, .int .i64 0, .int .i64 0, .int .i64 0, .int .i64 0, .int .i64 0, .bool false, .string ⟨#[]⟩] 33)).alloc (.cells #[.int .i64 k] 92)
  have n5 : Below w.heap.size w ((w.alloc (.cells #[.int .i64 0, .int .i64 0, .int .i64 0, .int .i64 0, .int .i64 0, .int .i64 0, .int .i64 0, .int .i64 0, .int .i64 0, .int .i64 0, .bool false, .string ⟨#[]⟩] 33)).alloc (.cells #[.int .i64 k] 92)) := ((Below.refl _ _).alloc (Nat.le_refl _) _).alloc (by rw [World.size_alloc]; omega) _
  go_upto_region 8 with fail
  generalize (w.alloc (.cells #[.int .i64 0, .int .i64 0, .int .i64 0, .int .i64 0, .int .i64 0, .int .i64 0, .int .i64 0, .int .i64 0, .int .i64 0, .int .i64 0, .bool false, .string ⟨#[]⟩] 33)).alloc (.cells #[.int .i64 k] 92) = w8 at *
  have HN : Hid (Box w8.drew w.heap.size 33 #[.int .i64 0, .int .i64 0, .int .i64 0, .int .i64 0, .int .i64 0, .int .i64 0, .int .i64 0, .int .i64 0, .int .i64 0, .int .i64 0, .bool false, .string ⟨#[]⟩]) := n1
  have HT : Hid (Box w8.drew (w.heap.size + 1) 92 #[.int .i64 k]) := n2
  have HE : Hid (Box w8.drew be 38 #[.int .i64 y]) := n3
  have HX : Hid (Box w8.drew bx 33 C) := n4
  have HL := Lib.hid (below_drewN n5 1)
  clear n1 n2 n3 n4 n5 he hx
  refine stage_region 4 (fun W => W.cell? ⟨w.heap.size, 0, none⟩ = some (.int .i64 0) ∧ W.cell? ⟨w.heap.size, 1, none⟩ = some (.int .i64 0) ∧ W.cell? ⟨w.heap.size, 2, none⟩ = some (.int .i64 0) ∧ W.cell? ⟨w.heap.size, 3, none⟩ = some (.int .i64 0) ∧ W.cell? ⟨w.heap.size, 4, none⟩ = some (.int .i64 0) ∧ W.cell? ⟨w.heap.size, 5, none⟩ = some (.int .i64 0) ∧ W.cell? ⟨w.heap.size, 6, none⟩ = some (.int .i64 0) ∧ W.cell? ⟨w.heap.size, 7, none⟩ = some (.int .i64 0) ∧ W.cell? ⟨w.heap.size, 8, none⟩ = some (.int .i64 0) ∧ W.cell? ⟨w.heap.size, 9, none⟩ = some (.int .i64 0) ∧ W.cell? ⟨w.heap.size, 10, none⟩ = some (.bool false) ∧ W.cell? ⟨w.heap.size, 11, none⟩ = some (.string ⟨#[]⟩) ∧ W.cell? ⟨w.heap.size + 1, 0, none⟩ = some (.int .i64 k) ∧ Box W w.heap.size 33 #[.int .i64 0, .int .i64 0, .int .i64 0, .int .i64 0, .int .i64 0, .int .i64 0, .int .i64 0, .int .i64 0, .int .i64 0, .int .i64 0, .bool false, .string ⟨#[]⟩] ∧ Box W (w.heap.size + 1) 92 #[.int .i64 k]) (by kernel_rfl) ?_
  have HS := And.intro HN.out HT.out
  refine' stage_take (i := 0) _ rfl (by kernel_rfl) (by kernel_rfl) (by kernel_rfl) (by kernel_rfl) (fun _ _ _ h => h) ⟨HS.1.cell 0, HS.1.cell 1, HS.1.cell 2, HS.1.cell 3, HS.1.cell 4, HS.1.cell 5, HS.1.cell 6, HS.1.cell 7, HS.1.cell 8, HS.1.cell 9, HS.1.cell 10, HS.1.cell 11, HS.2.cell 0, HS⟩ _ (fun W hW => _) _
  rotate_left
  focus (go_simp; done)
  focus (obtain ⟨k1, k2, k3, k4, k5, k6, k7, k8, k9, k10, k11, k12, k13, X9⟩ := hW; go_simp; first | done | (with_reducible rfl))
  simp only [Act.put, List.getElem_toArray, List.getElem_cons_succ, List.getElem_cons_zero, List.setIfInBounds_toArray, List.set_cons_zero, List.set_cons_succ]
  refine' stage_take (i := 1) _ rfl (by kernel_rfl) (by kernel_rfl) (by kernel_rfl) (by kernel_rfl) (fun _ _ _ h => h) ⟨HS.1.cell 0, HS.1.cell 1, HS.1.cell 2, HS.1.cell 3, HS.1.cell 4, HS.1.cell 5, HS.1.cell 6, HS.1.cell 7, HS.1.cell 8, HS.1.cell 9, HS.1.cell 10, HS.1.cell 11, HS.2.cell 0, HS⟩ _ (fun W hW => _) _
  rotate_left
  focus (go_simp; done)
  focus (obtain ⟨k1, k2, k3, k4, k5, k6, k7, k8, k9, k10, k11, k12, k13, X9⟩ := hW; go_simp; first | done | (with_reducible rfl))
  simp only [Act.put, List.getElem_toArray, List.getElem_cons_succ, List.getElem_cons_zero, List.setIfInBounds_toArray, List.set_cons_zero, List.set_cons_succ]
  refine' stage_take (i := 2) _ rfl (by kernel_rfl) (by kernel_rfl) (by kernel_rfl) (by kernel_rfl) (fun _ _ _ h => h) ⟨HS.1.cell 0, HS.1.cell 1, HS.1.cell 2, HS.1.cell 3, HS.1.cell 4, HS.1.cell 5, HS.1.cell 6, HS.1.cell 7, HS.1.cell 8, HS.1.cell 9, HS.1.cell 10, HS.1.cell 11, HS.2.cell 0, HS⟩ _ (fun W hW => _) _
  rotate_left
  focus (go_simp; done)
  focus (obtain ⟨k1, k2, k3, k4, k5, k6, k7, k8, k9, k10, k11, k12, k13, X9⟩ := hW; go_simp; first | done | (with_reducible rfl))
  simp only [Act.put, List.getElem_toArray, List.getElem_cons_succ, List.getElem_cons_zero, List.setIfInBounds_toArray, List.set_cons_zero, List.set_cons_succ]
  refine stage_only (i := 3) rfl (by kernel_rfl) ?_ (fun K hK => ?_)
  focus (go_simp; done)
  refine wp_store_row 33 (.tmp 0) (.tmp 12) rfl bx #[.int .i64 0, .int .i64 0, .int .i64 0, .int .i64 0, .int .i64 0, .int .i64 0, .int .i64 0, .int .i64 0, .int .i64 0, .int .i64 0, .bool false, .string ⟨#[]⟩] rfl rfl 33 C HX.out (by kernel_rfl) hC (by simp [Value.oneCell']) ?_
  replace HS := And.intro (HS.1.farRow (k := bx) (by omega) #[.int .i64 0, .int .i64 0, .int .i64 0, .int .i64 0, .int .i64 0, .int .i64 0, .int .i64 0, .int .i64 0, .int .i64 0, .int .i64 0, .bool false, .string ⟨#[]⟩]) (HS.2.farRow (k := bx) (by omega) #[.int .i64 0, .int .i64 0, .int .i64 0, .int .i64 0, .int .i64 0, .int .i64 0, .int .i64 0, .int .i64 0, .int .i64 0, .int .i64 0, .bool false, .string ⟨#[]⟩])
  refine hK.out _ _ (fun _ => ⟨HS.1.cell 0, HS.1.cell 1, HS.1.cell 2, HS.1.cell 3, HS.1.cell 4, HS.1.cell 5, HS.1.cell 6, HS.1.cell 7, HS.1.cell 8, HS.1.cell 9, HS.1.cell 10, HS.1.cell 11, HS.2.cell 0, HS⟩) ?_
  clear hK K
  try simp only [Act.put, List.getElem_toArray, List.getElem_cons_succ, List.getElem_cons_zero, List.setIfInBounds_toArray, List.set_cons_zero, List.set_cons_succ]
  refine stage_only (i := 4) rfl (by kernel_rfl) ?_ (fun K hK => ?_)
  focus (go_simp; done)
  have ck : (w8.drew.setRow bx #[.int .i64 0, .int .i64 0, .int .i64 0, .int .i64 0, .int .i64 0, .int .i64 0, .int .i64 0, .int .i64 0, .int .i64 0, .int .i64 0, .bool false, .string ⟨#[]⟩]).cell? ⟨be, 0, none⟩ = some (.int .i64 y) := (HE.out.farRow (k := bx) (by omega) #[.int .i64 0, .int .i64 0, .int .i64 0, .int .i64 0, .int .i64 0, .int .i64 0, .int .i64 0, .int .i64 0, .int .i64 0, .int .i64 0, .bool false, .string ⟨#[]⟩]).cell 0
  have fk := (HE.out.farRow (k := bx) (by omega) #[.int .i64 0, .int .i64 0, .int .i64 0, .int .i64 0, .int .i64 0, .int .i64 0, .int .i64 0, .int .i64 0, .int .i64 0, .int .i64 0, .bool false, .string ⟨#[]⟩]).frozen 0
  go_simp
  clear ck fk
  refine hK.out _ _ (fun h => absurd h (by decide)) ?_
  clear hK K
  try simp only [Act.put, List.getElem_toArray, List.getElem_cons_succ, List.getElem_cons_zero, List.setIfInBounds_toArray, List.set_cons_zero, List.set_cons_succ]
  refine stage_end (by kernel_rfl) ?_
  have e1 : Box ((w8.drew.setRow bx #[.int .i64 0, .int .i64 0, .int .i64 0, .int .i64 0, .int .i64 0, .int .i64 0, .int .i64 0, .int .i64 0, .int .i64 0, .int .i64 0, .bool false, .string ⟨#[]⟩]).setCell ⟨be, 0, none⟩ (.int .i64 k)) be 38 #[.int .i64 k] := (HE.out.farRow (k := bx) (by omega) #[.int .i64 0, .int .i64 0, .int .i64 0, .int .i64 0, .int .i64 0, .int .i64 0, .int .i64 0, .int .i64 0, .int .i64 0, .int .i64 0, .bool false, .string ⟨#[]⟩]).set 0 _
  have e2 : Box ((w8.drew.setRow bx #[.int .i64 0, .int .i64 0, .int .i64 0, .int .i64 0, .int .i64 0, .int .i64 0, .int .i64 0, .int .i64 0, .int .i64 0, .int .i64 0, .bool false, .string ⟨#[]⟩]).setCell ⟨be, 0, none⟩ (.int .i64 k)) bx 33 #[.int .i64 0, .int .i64 0, .int .i64 0, .int .i64 0, .int .i64 0, .int .i64 0, .int .i64 0, .int .i64 0, .int .i64 0, .int .i64 0, .bool false, .string ⟨#[]⟩] := (HX.out.row #[.int .i64 0, .int .i64 0, .int .i64 0, .int .i64 0, .int .i64 0, .int .i64 0, .int .i64 0, .int .i64 0, .int .i64 0, .int .i64 0, .bool false, .string ⟨#[]⟩]).far (p := ⟨be, 0, none⟩) hne _
  have e3 : ∀ B, B ≤ be → B ≤ bx → Below B w ((w8.drew.setRow bx #[.int .i64 0, .int .i64 0, .int .i64 0, .int .i64 0, .int .i64 0, .int .i64 0, .int .i64 0, .int .i64 0, .int .i64 0, .int .i64 0, .bool false, .string ⟨#[]⟩]).setCell ⟨be, 0, none⟩ (.int .i64 k)) := fun B a b => (below_setRow (HL.out.mono (by omega)) b _).setCell (p := ⟨be, 0, none⟩) a _
  clear HN HT HE HX HL HS
  have e4 := And.intro e1 (And.intro e2 e3)
  clear e1 e2 e3
  have E4 := Lib.hid e4
  clear e4
  go_wp2_with fail
  cases c₀
  simp only at hu
  subst hu
  have e5 := E4.out
  unfold up at *
  simp [bodyPostS, results, Tryz.results59]
  exact e5

set_option maxRecDepth 100000 in
/-- the deferred closure of a reading that returned -/
theorem leddoor_ok (be bx : Nat) (w : World) :
    CallsD Tryz.prog 45 #[.pointer (some ⟨bx, 0, none⟩), .pointer (some ⟨be, 0, none⟩)] .returning w fun e u' w' => e = .returned (.tuple #[]) ∧ u' = .returning ∧ w' = w.alloc (.cells #[.int .i64 0, .slice none 0 0, .slice none 0 0, .slice none 0 0, .slice none 0 0, .slice none 0 0, .slice none 0 0, .slice none 0 0, .slice none 0 0] 31) := by
  have hq : ∀ (w : World), (binOp BinOp.eql 20 .nilIface .nilIface).run Tryz.prog w = .ok (.bool true) w := fun _ => rfl
  refine callsD_of_wpS Tryz.func45 rfl fun c₀ cs hu => ?_
  apply wpS_seq
  apply wpS_region
  simp [wpOpsS, go_sem, hu, Tryz.ntmps45, Exit.thenS]
  apply wpS_seq
  apply wpS_region
  simp [wpOpsS, go_sem, recoverD, hu, Exit.thenS]
  refine wpS_of_wp ?_
  change Code.wp _ _ _ ⟨#[.pointer (some ⟨bx, 0, none⟩), .pointer (some ⟨be, 0, none⟩), .pointer (some ⟨w.heap.size, 0, none⟩), undef, undef, undef, .nilIface, undef, undef, undef, undef, undef, undef, undef, undef], []⟩ _
  go_wp2_with fail
  cases c₀
  simp_all [bodyPostS, results, Tryz.results45]
set_option maxRecDepth 100000 in
/-- the deferred closure of a reading that was given up -/
theorem leddoor_up (be bx : Nat) (w : World) (k y : Int) (C : Array Value) (hC : C.size = 9) (hne : bx ≠ be) (he : Box w be 38 #[.int .i64 y]) (hx : Box w bx 31 C) :
    CallsD Tryz.prog 45 #[.pointer (some ⟨bx, 0, none⟩), .pointer (some ⟨be, 0, none⟩)] (.panicking [{ v := up k, recovered := false }]) w fun e u' w' => e = .returned (.tuple #[]) ∧ u' = .panicking [{ v := up k, recovered := true }] ∧ Box w' be 38 #[.int .i64 k] ∧ Box w' bx 31 #[.int .i64 0, .slice none 0 0, .slice none 0 0, .slice none 0 0, .slice none 0 0, .slice none 0 0, .slice none 0 0, .slice none 0 0, .slice none 0 0] ∧ ∀ B, B ≤ be → B ≤ bx → Below B w w' := by
  refine callsD_of_wpS Tryz.func45 rfl fun c₀ cs hu => ?_
  apply wpS_seq
  apply wpS_region
  simp [wpOpsS, go_sem, hu, Tryz.ntmps45, Exit.thenS]
  apply wpS_seq
  apply wpS_region
  simp [wpOpsS, go_sem, recoverD, hu, Exit.thenS]
  refine wpS_of_wp ?_
  unfold up
  change Code.wp _ _ _ ⟨#[.pointer (some ⟨bx, 0, none⟩), .pointer (some ⟨be, 0, none⟩), .pointer (some ⟨w.heap.size, 0, none⟩), undef, undef, undef, .iface 92 (.agg #[.int .i64 k]), undef, undef, undef, undef, undef, undef, undef, undef], []⟩ _
  have hq : ∀ (t : TypeId) (v : Value) (w : World), (binOp BinOp.eql 20 (.iface t v) .nilIface).run Tryz.prog w = .ok (.bool false) w := fun _ _ _ => rfl
  have hta : ∀ (v : Value) (w : World), (Instr.typeAssert (.iface 92 v) 20 92 true).run Tryz.prog w = .ok (.tuple #[v, .bool true]) w := fun _ _ => rfl
  have h1 := he.lt
  have h2 := hx.lt
  have n1 : Box ((w.alloc (.cells #[.int .i64 0, .slice none 0 0, .slice none 0 0, .slice none 0 0, .slice none 0 0, .slice none 0 0, .slice none 0 0, .slice none 0 0, .slice none 0 0] 31)).alloc (.cells #[.int .i64 k] 92)) w.heap.size 31 #[.int .i64 0, .slice none 0 0, .slice none 0 0, .slice none 0 0, .slice none 0 0, .slice none 0 0, .slice none 0 0, .slice none 0 0, .slice none 0 0] := (Box.new w _ _).alloc _
  have n2 : Box ((w.alloc (.cells #[.int .i64 0, .slice none 0 0, .slice none 0 0, .slice none 0 0, .slice none 0 0, .slice none 0 0, .slice none 0 0, .slice none 0 0, .slice none 0 0] 31)).alloc (.cells #[.int .i64 k] 92)) (w.heap.size + 1) 92 #[.int .i64 k] := by
    have := Box.new (w.alloc (.cells #[.int .i64 0, .slice none 0 0, .slice none 0 0, .slice none 0 0, .slice none 0 0, .slice none 0 0, .slice none 0 0, .slice none 0 0, .slice none 0 0] 31)) 92 #[.int .i64 k]
    rwa [World.size_alloc] at this
  have n3 := (he.alloc (.cells #[.int .i64 0, .slice none 0 0, .slice none 0 0, .slice none 0 0, .slice none 0 0, .slice none 0 0, .slice none 0 0, .slice none 0 0, .slice none 0 0] 31)).alloc (.cells #[.int .i64 k] 92)
  have n4 := (hx.alloc (.cells #[.int .i64 0, .slice none 0 0, .slice none 0 0, .slice none 0 0, .slice none 0 0, .slice none 0 0, .slice none 0 0, .slice none 0 0, .slice none 0 0] 31)).alloc (.cells #[.int .i64 k] 92)
  have n5 : Below w.heap.size w ((w.alloc (.cells #[.int .i64 0, .slice none 0 0, .slice none 0 0, .slice none 0 0, .slice none 0 0, .slice none 0 0, .slice none 0 0, .slice none 0 0, .slice none 0 0] 31)).alloc (.cells #[.int .i64 k] 92)) := ((Below.refl _ _).alloc (Nat.le_refl _) _).alloc (by rw [World.size_alloc]; omega) _
  go_upto_region 8 with fail
  generalize (w.alloc (.cells #[.int .i64 0, .slice none 0 0, .slice none 0 0, .slice none 0 0, .slice none 0 0, .slice none 0 0, .slice none 0 0, .slice none 0 0, .slice none 0 0] 31)).alloc (.cells #[.int .i64 k] 92) = w8 at *
  have HN : Hid (Box w8.drew w.heap.size 31 #[.int .i64 0, .slice none 0 0, .slice none 0 0, .slice none 0 0, .slice none 0 0, .slice none 0 0, .slice none 0 0, .slice none 0 0, .slice none 0 0]) := n1
  have HT : Hid (Box w8.drew (w.heap.size + 1) 92 #[.int .i64 k]) := n2
  have HE : Hid (Box w8.drew be 38 #[.int .i64 y]) := n3
  have HX : Hid (Box w8.drew bx 31 C) := n4
  have HL := Lib.hid (below_drewN n5 1)
  clear n1 n2 n3 n4 n5 he hx
  refine stage_region 4 (fun W => W.cell? ⟨w.heap.size, 0, none⟩ = some (.int .i64 0) ∧ W.cell? ⟨w.heap.size, 1, none⟩ = some (.slice none 0 0) ∧ W.cell? ⟨w.heap.size, 2, none⟩ = some (.slice none 0 0) ∧ W.cell? ⟨w.heap.size, 3, none⟩ = some (.slice none 0 0) ∧ W.cell? ⟨w.heap.size, 4, none⟩ = some (.slice none 0 0) ∧ W.cell? ⟨w.heap.size, 5, none⟩ = some (.slice none 0 0) ∧ W.cell? ⟨w.heap.size, 6, none⟩ = some (.slice none 0 0) ∧ W.cell? ⟨w.heap.size, 7, none⟩ = some (.slice none 0 0) ∧ W.cell? ⟨w.heap.size, 8, none⟩ = some (.slice none 0 0) ∧ W.cell? ⟨w.heap.size + 1, 0, none⟩ = some (.int .i64 k) ∧ Box W w.heap.size 31 #[.int .i64 0, .slice none 0 0, .slice none 0 0, .slice none 0 0, .slice none 0 0, .slice none 0 0, .slice none 0 0, .slice none 0 0, .slice none 0 0] ∧ Box W (w.heap.size + 1) 92 #[.int .i64 k]) (by kernel_rfl) ?_
  have HS := And.intro HN.out HT.out
  refine' stage_take (i := 0) _ rfl (by kernel_rfl) (by kernel_rfl) (by kernel_rfl) (by kernel_rfl) (fun _ _ _ h => h) ⟨HS.1.cell 0, HS.1.cell 1, HS.1.cell 2, HS.1.cell 3, HS.1.cell 4, HS.1.cell 5, HS.1.cell 6, HS.1.cell 7, HS.1.cell 8, HS.2.cell 0, HS⟩ _ (fun W hW => _) _
  rotate_left
  focus (go_simp; done)
  focus (obtain ⟨k1, k2, k3, k4, k5, k6, k7, k8, k9, k10, X9⟩ := hW; go_simp; first | done | (with_reducible rfl))
  simp only [Act.put, List.getElem_toArray, List.getElem_cons_succ, List.getElem_cons_zero, List.setIfInBounds_toArray, List.set_cons_zero, List.set_cons_succ]
  refine' stage_take (i := 1) _ rfl (by kernel_rfl) (by kernel_rfl) (by kernel_rfl) (by kernel_rfl) (fun _ _ _ h => h) ⟨HS.1.cell 0, HS.1.cell 1, HS.1.cell 2, HS.1.cell 3, HS.1.cell 4, HS.1.cell 5, HS.1.cell 6, HS.1.cell 7, HS.1.cell 8, HS.2.cell 0, HS⟩ _ (fun W hW => _) _
  rotate_left
  focus (go_simp; done)
  focus (obtain ⟨k1, k2, k3, k4, k5, k6, k7, k8, k9, k10, X9⟩ := hW; go_simp; first | done | (with_reducible rfl))
  simp only [Act.put, List.getElem_toArray, List.getElem_cons_succ, List.getElem_cons_zero, List.setIfInBounds_toArray, List.set_cons_zero, List.set_cons_succ]
  refine' stage_take (i := 2) _ rfl (by kernel_rfl) (by kernel_rfl) (by kernel_rfl) (by kernel_rfl) (fun _ _ _ h => h) ⟨HS.1.cell 0, HS.1.cell 1, HS.1.cell 2, HS.1.cell 3, HS.1.cell 4, HS.1.cell 5, HS.1.cell 6, HS.1.cell 7, HS.1.cell 8, HS.2.cell 0, HS⟩ _ (fun W hW => _) _
  rotate_left
  focus (go_simp; done)
  focus (obtain ⟨k1, k2, k3, k4, k5, k6, k7, k8, k9, k10, X9⟩ := hW; go_simp; first | done | (with_reducible rfl))
  simp only [Act.put, List.getElem_toArray, List.getElem_cons_succ, List.getElem_cons_zero, List.setIfInBounds_toArray, List.set_cons_zero, List.set_cons_succ]
  refine stage_only (i := 3) rfl (by kernel_rfl) ?_ (fun K hK => ?_)
  focus (go_simp; done)
  refine wp_store_row 31 (.tmp 0) (.tmp 12) rfl bx #[.int .i64 0, .slice none 0 0, .slice none 0 0, .slice none 0 0, .slice none 0 0, .slice none 0 0, .slice none 0 0, .slice none 0 0, .slice none 0 0] rfl rfl 31 C HX.out (by kernel_rfl) hC (by simp [Value.oneCell']) ?_
  replace HS := And.intro (HS.1.farRow (k := bx) (by omega) #[.int .i64 0, .slice none 0 0, .slice none 0 0, .slice none 0 0, .slice none 0 0, .slice none 0 0, .slice none 0 0, .slice none 0 0, .slice none 0 0]) (HS.2.farRow (k := bx) (by omega) #[.int .i64 0, .slice none 0 0, .slice none 0 0, .slice none 0 0, .slice none 0 0, .slice none 0 0, .slice none 0 0, .slice none 0 0, .slice none 0 0])
  refine hK.out _ _ (fun _ => ⟨HS.1.cell 0, HS.1.cell 1, HS.1.cell 2, HS.1.cell 3, HS.1.cell 4, HS.1.cell 5, HS.1.cell 6, HS.1.cell 7, HS.1.cell 8, HS.2.cell 0, HS⟩) ?_
  clear hK K
  try simp only [Act.put, List.getElem_toArray, List.getElem_cons_succ, List.getElem_cons_zero, List.setIfInBounds_toArray, List.set_cons_zero, List.set_cons_succ]
  refine stage_only (i := 4) rfl (by kernel_rfl) ?_ (fun K hK => ?_)
  focus (go_simp; done)
  have ck : (w8.drew.setRow bx #[.int .i64 0, .slice none 0 0, .slice none 0 0, .slice none 0 0, .slice none 0 0, .slice none 0 0, .slice none 0 0, .slice none 0 0, .slice none 0 0]).cell? ⟨be, 0, none⟩ = some (.int .i64 y) := (HE.out.farRow (k := bx) (by omega) #[.int .i64 0, .slice none 0 0, .slice none 0 0, .slice none 0 0, .slice none 0 0, .slice none 0 0, .slice none 0 0, .slice none 0 0, .slice none 0 0]).cell 0
  have fk := (HE.out.farRow (k := bx) (by omega) #[.int .i64 0, .slice none 0 0, .slice none 0 0, .slice none 0 0, .slice none 0 0, .slice none 0 0, .slice none 0 0, .slice none 0 0, .slice none 0 0]).frozen 0
  go_simp
  clear ck fk
  refine hK.out _ _ (fun h => absurd h (by decide)) ?_
  clear hK K
  try simp only [Act.put, List.getElem_toArray, List.getElem_cons_succ, List.getElem_cons_zero, List.setIfInBounds_toArray, List.set_cons_zero, List.set_cons_succ]
  refine stage_end (by kernel_rfl) ?_
  have e1 : Box ((w8.drew.setRow bx #[.int .i64 0, .slice none 0 0, .slice none 0 0, .slice none 0 0, .slice none 0 0, .slice none 0 0, .slice none 0 0, .slice none 0 0, .slice none 0 0]).setCell ⟨be, 0, none⟩ (.int .i64 k)) be 38 #[.int .i64 k] := (HE.out.farRow (k := bx) (by omega) #[.int .i64 0, .slice none 0 0, .slice none 0 0, .slice none 0 0, .slice none 0 0, .slice none 0 0, .slice none 0 0, .slice none 0 0, .slice none 0 0]).set 0 _
  have e2 : Box ((w8.drew.setRow bx #[.int .i64 0, .slice none 0 0, .slice none 0 0, .slice none 0 0, .slice none 0 0, .slice none 0 0, .slice none 0 0, .slice none 0 0, .slice none 0 0]).setCell ⟨be, 0, none⟩ (.int .i64 k)) bx 31 #[.int .i64 0, .slice none 0 0, .slice none 0 0, .slice none 0 0, .slice none 0 0, .slice none 0 0, .slice none 0 0, .slice none 0 0, .slice none 0 0] := (HX.out.row #[.int .i64 0, .slice none 0 0, .slice none 0 0, .slice none 0 0, .slice none 0 0, .slice none 0 0, .slice none 0 0, .slice none 0 0, .slice none 0 0]).far (p := ⟨be, 0, none⟩) hne _
  have e3 : ∀ B, B ≤ be → B ≤ bx → Below B w ((w8.drew.setRow bx #[.int .i64 0, .slice none 0 0, .slice none 0 0, .slice none 0 0, .slice none 0 0, .slice none 0 0, .slice none 0 0, .slice none 0 0, .slice none 0 0]).setCell ⟨be, 0, none⟩ (.int .i64 k)) := fun B a b => (below_setRow (HL.out.mono (by omega)) b _).setCell (p := ⟨be, 0, none⟩) a _
  clear HN HT HE HX HL HS
  have e4 := And.intro e1 (And.intro e2 e3)
  clear e1 e2 e3
  have E4 := Lib.hid e4
  clear e4
  go_wp2_with fail
  cases c₀
  simp only at hu
  subst hu
  have e5 := E4.out
  unfold up at *
  simp [bodyPostS, results, Tryz.results45]
  exact e5
theorem hmf (fn : Fn) (first cap : Array Value) (w : World) : (Instr.makeFunc fn first cap).run Tryz.prog w = .ok (.func fn first cap) w := rfl
theorem evleave_ok (tm : Array Value) (R : Ending → World → Prop) (v0 v1 v2 v3 v4 v5 v6 v7 v8 v9 v10 v11 : Value) (be bx : Nat) (W : World) (h4 : tm[4]? = some (.pointer (some ⟨bx, 0, none⟩))) (h5 : tm[5]? = some (.pointer (some ⟨be, 0, none⟩)))
    (hv : Box W bx 33 #[v0, v1, v2, v3, v4, v5, v6, v7, v8, v9, v10, v11]) (he : Box W be 38 #[.int .i64 0]) (hR : R (.returned (.tuple #[.agg #[v0, v1, v2, v3, v4, v5, v6, v7, v8, v9, v10, v11], .int .i64 0])) (W.alloc (.cells #[.int .i64 0, .int .i64 0, .int .i64 0, .int .i64 0, .int .i64 0, .int .i64 0, .int .i64 0, .int .i64 0, .int .i64 0, .int .i64 0, .bool false, .string ⟨#[]⟩] 33))) :
    Leaves Tryz.prog Tryz.f35 tm R [{ target := Target.fn (Fn.func 59) #[.pointer (some ⟨bx, 0, none⟩), .pointer (some ⟨be, 0, none⟩)], args := #[] }] .returning W := by
  refine leaves_cons (f := 59) (args := #[.pointer (some ⟨bx, 0, none⟩), .pointer (some ⟨be, 0, none⟩)]) (by simp) (by simp [go_sem]) ?_
  refine (evdoor_ok be bx W).mono ?_
  rintro e u' w' ⟨rfl, rfl, rfl⟩
  have hv2 := hv.alloc (.cells #[.int .i64 0, .int .i64 0, .int .i64 0, .int .i64 0, .int .i64 0, .int .i64 0, .int .i64 0, .int .i64 0, .int .i64 0, .int .i64 0, .bool false, .string ⟨#[]⟩] 33)
  have he2 := he.alloc (.cells #[.int .i64 0, .int .i64 0, .int .i64 0, .int .i64 0, .int .i64 0, .int .i64 0, .int .i64 0, .int .i64 0, .int .i64 0, .int .i64 0, .bool false, .string ⟨#[]⟩] 33)
  have c0 : (W.alloc (.cells #[.int .i64 0, .int .i64 0, .int .i64 0, .int .i64 0, .int .i64 0, .int .i64 0, .int .i64 0, .int .i64 0, .int .i64 0, .int .i64 0, .bool false, .string ⟨#[]⟩] 33)).cell? ⟨bx, 0, none⟩ = some v0 := hv2.cell 0
  have c1 : (W.alloc (.cells #[.int .i64 0, .int .i64 0, .int .i64 0, .int .i64 0, .int .i64 0, .int .i64 0, .int .i64 0, .int .i64 0, .int .i64 0, .int .i64 0, .bool false, .string ⟨#[]⟩] 33)).cell? ⟨bx, 1, none⟩ = some v1 := hv2.cell 1
  have c2 : (W.alloc (.cells #[.int .i64 0, .int .i64 0, .int .i64 0, .int .i64 0, .int .i64 0, .int .i64 0, .int .i64 0, .int .i64 0, .int .i64 0, .int .i64 0, .bool false, .string ⟨#[]⟩] 33)).cell? ⟨bx, 2, none⟩ = some v2 := hv2.cell 2
  have c3 : (W.alloc (.cells #[.int .i64 0, .int .i64 0, .int .i64 0, .int .i64 0, .int .i64 0, .int .i64 0, .int .i64 0, .int .i64 0, .int .i64 0, .int .i64 0, .bool false, .string ⟨#[]⟩] 33)).cell? ⟨bx, 3, none⟩ = some v3 := hv2.cell 3
  have c4 : (W.alloc (.cells #[.int .i64 0, .int .i64 0, .int .i64 0, .int .i64 0, .int .i64 0, .int .i64 0, .int .i64 0, .int .i64 0, .int .i64 0, .int .i64 0, .bool false, .string ⟨#[]⟩] 33)).cell? ⟨bx, 4, none⟩ = some v4 := hv2.cell 4
  have c5 : (W.alloc (.cells #[.int .i64 0, .int .i64 0, .int .i64 0, .int .i64 0, .int .i64 0, .int .i64 0, .int .i64 0, .int .i64 0, .int .i64 0, .int .i64 0, .bool false, .string ⟨#[]⟩] 33)).cell? ⟨bx, 5, none⟩ = some v5 := hv2.cell 5
  have c6 : (W.alloc (.cells #[.int .i64 0, .int .i64 0, .int .i64 0, .int .i64 0, .int .i64 0, .int .i64 0, .int .i64 0, .int .i64 0, .int .i64 0, .int .i64 0, .bool false, .string ⟨#[]⟩] 33)).cell? ⟨bx, 6, none⟩ = some v6 := hv2.cell 6
  have c7 : (W.alloc (.cells #[.int .i64 0, .int .i64 0, .int .i64 0, .int .i64 0, .int .i64 0, .int .i64 0, .int .i64 0, .int .i64 0, .int .i64 0, .int .i64 0, .bool false, .string ⟨#[]⟩] 33)).cell? ⟨bx, 7, none⟩ = some v7 := hv2.cell 7
  have c8 : (W.alloc (.cells #[.int .i64 0, .int .i64 0, .int .i64 0, .int .i64 0, .int .i64 0, .int .i64 0, .int .i64 0, .int .i64 0, .int .i64 0, .int .i64 0, .bool false, .string ⟨#[]⟩] 33)).cell? ⟨bx, 8, none⟩ = some v8 := hv2.cell 8
  have c9 : (W.alloc (.cells #[.int .i64 0, .int .i64 0, .int .i64 0, .int .i64 0, .int .i64 0, .int .i64 0, .int .i64 0, .int .i64 0, .int .i64 0, .int .i64 0, .bool false, .string ⟨#[]⟩] 33)).cell? ⟨bx, 9, none⟩ = some v9 := hv2.cell 9
  have c10 : (W.alloc (.cells #[.int .i64 0, .int .i64 0, .int .i64 0, .int .i64 0, .int .i64 0, .int .i64 0, .int .i64 0, .int .i64 0, .int .i64 0, .int .i64 0, .bool false, .string ⟨#[]⟩] 33)).cell? ⟨bx, 10, none⟩ = some v10 := hv2.cell 10
  have c11 : (W.alloc (.cells #[.int .i64 0, .int .i64 0, .int .i64 0, .int .i64 0, .int .i64 0, .int .i64 0, .int .i64 0, .int .i64 0, .int .i64 0, .int .i64 0, .bool false, .string ⟨#[]⟩] 33)).cell? ⟨bx, 11, none⟩ = some v11 := hv2.cell 11
  have ce : (W.alloc (.cells #[.int .i64 0, .int .i64 0, .int .i64 0, .int .i64 0, .int .i64 0, .int .i64 0, .int .i64 0, .int .i64 0, .int .i64 0, .int .i64 0, .bool false, .string ⟨#[]⟩] 33)).cell? ⟨be, 0, none⟩ = some (.int .i64 0) := he2.cell 0
  simp [Leaves, settle, results, Tryz.results35, go_sem, h4, h5, c0, c1, c2, c3, c4, c5, c6, c7, c8, c9, c10, c11, ce]
  exact hR
theorem evleave_up (tm : Array Value) (R : Ending → World → Prop) (k y : Int) (C : Array Value) (hC : C.size = 12) (be bx : Nat) (hne : bx ≠ be) (W : World) (h4 : tm[4]? = some (.pointer (some ⟨bx, 0, none⟩))) (h5 : tm[5]? = some (.pointer (some ⟨be, 0, none⟩)))
    (hv : Box W bx 33 C) (he : Box W be 38 #[.int .i64 y]) (hR : ∀ w', (∀ B, B ≤ be → B ≤ bx → Below B W w') → R (.returned (.tuple #[.agg #[.int .i64 0, .int .i64 0, .int .i64 0, .int .i64 0, .int .i64 0, .int .i64 0, .int .i64 0, .int .i64 0, .int .i64 0, .int .i64 0, .bool false, .string ⟨#[]⟩], .int .i64 k])) w') :
    Leaves Tryz.prog Tryz.f35 tm R [{ target := Target.fn (Fn.func 59) #[.pointer (some ⟨bx, 0, none⟩), .pointer (some ⟨be, 0, none⟩)], args := #[] }] (.panicking [{ v := up k, recovered := false }]) W := by
  refine leaves_cons (f := 59) (args := #[.pointer (some ⟨bx, 0, none⟩), .pointer (some ⟨be, 0, none⟩)]) (by simp) (by simp [go_sem]) ?_
  refine (evdoor_up be bx W k y C hC hne he hv).mono ?_
  rintro e u' w' ⟨rfl, rfl, b1, b2, hb⟩
  have c0 : w'.cell? ⟨bx, 0, none⟩ = some (.int .i64 0) := b2.cell 0
  have c1 : w'.cell? ⟨bx, 1, none⟩ = some (.int .i64 0) := b2.cell 1
  have c2 : w'.cell? ⟨bx, 2, none⟩ = some (.int .i64 0) := b2.cell 2
  have c3 : w'.cell? ⟨bx, 3, none⟩ = some (.int .i64 0) := b2.cell 3
  have c4 : w'.cell? ⟨bx, 4, none⟩ = some (.int .i64 0) := b2.cell 4
  have c5 : w'.cell? ⟨bx, 5, none⟩ = some (.int .i64 0) := b2.cell 5
  have c6 : w'.cell? ⟨bx, 6, none⟩ = some (.int .i64 0) := b2.cell 6
  have c7 : w'.cell? ⟨bx, 7, none⟩ = some (.int .i64 0) := b2.cell 7
  have c8 : w'.cell? ⟨bx, 8, none⟩ = some (.int .i64 0) := b2.cell 8
  have c9 : w'.cell? ⟨bx, 9, none⟩ = some (.int .i64 0) := b2.cell 9
  have c10 : w'.cell? ⟨bx, 10, none⟩ = some (.bool false) := b2.cell 10
  have c11 : w'.cell? ⟨bx, 11, none⟩ = some (.string ⟨#[]⟩) := b2.cell 11
  have ce : w'.cell? ⟨be, 0, none⟩ = some (.int .i64 k) := b1.cell 0
  simp [Leaves, settle, results, Tryz.results35, go_sem, h4, h5, c0, c1, c2, c3, c4, c5, c6, c7, c8, c9, c10, c11, ce]
  exact hR _ hb
theorem ledleave_ok (tm : Array Value) (R : Ending → World → Prop) (v0 v1 v2 v3 v4 v5 v6 v7 v8 : Value) (be bx : Nat) (W : World) (h4 : tm[4]? = some (.pointer (some ⟨bx, 0, none⟩))) (h5 : tm[5]? = some (.pointer (some ⟨be, 0, none⟩)))
    (hv : Box W bx 31 #[v0, v1, v2, v3, v4, v5, v6, v7, v8]) (he : Box W be 38 #[.int .i64 0]) (hR : R (.returned (.tuple #[.agg #[v0, v1, v2, v3, v4, v5, v6, v7, v8], .int .i64 0])) (W.alloc (.cells #[.int .i64 0, .slice none 0 0, .slice none 0 0, .slice none 0 0, .slice none 0 0, .slice none 0 0, .slice none 0 0, .slice none 0 0, .slice none 0 0] 31))) :
    Leaves Tryz.prog Tryz.f27 tm R [{ target := Target.fn (Fn.func 45) #[.pointer (some ⟨bx, 0, none⟩), .pointer (some ⟨be, 0, none⟩)], args := #[] }] .returning W := by
  refine leaves_cons (f := 45) (args := #[.pointer (some ⟨bx, 0, none⟩), .pointer (some ⟨be, 0, none⟩)]) (by simp) (by simp [go_sem]) ?_
  refine (leddoor_ok be bx W).mono ?_
  rintro e u' w' ⟨rfl, rfl, rfl⟩
  have hv2 := hv.alloc (.cells #[.int .i64 0, .slice none 0 0, .slice none 0 0, .slice none 0 0, .slice none 0 0, .slice none 0 0, .slice none 0 0, .slice none 0 0, .slice none 0 0] 31)
  have he2 := he.alloc (.cells #[.int .i64 0, .slice none 0 0, .slice none 0 0, .slice none 0 0, .slice none 0 0, .slice none 0 0, .slice none 0 0, .slice none 0 0, .slice none 0 0] 31)
  have c0 : (W.alloc (.cells #[.int .i64 0, .slice none 0 0, .slice none 0 0, .slice none 0 0, .slice none 0 0, .slice none 0 0, .slice none 0 0, .slice none 0 0, .slice none 0 0] 31)).cell? ⟨bx, 0, none⟩ = some v0 := hv2.cell 0
  have c1 : (W.alloc (.cells #[.int .i64 0, .slice none 0 0, .slice none 0 0, .slice none 0 0, .slice none 0 0, .slice none 0 0, .slice none 0 0, .slice none 0 0, .slice none 0 0] 31)).cell? ⟨bx, 1, none⟩ = some v1 := hv2.cell 1
  have c2 : (W.alloc (.cells #[.int .i64 0, .slice none 0 0, .slice none 0 0, .slice none 0 0, .slice none 0 0, .slice none 0 0, .slice none 0 0, .slice none 0 0, .slice none 0 0] 31)).cell? ⟨bx, 2, none⟩ = some v2 := hv2.cell 2
  have c3 : (W.alloc (.cells #[.int .i64 0, .slice none 0 0, .slice none 0 0, .slice none 0 0, .slice none 0 0, .slice none 0 0, .slice none 0 0, .slice none 0 0, .slice none 0 0] 31)).cell? ⟨bx, 3, none⟩ = some v3 := hv2.cell 3
  have c4 : (W.alloc (.cells #[.int .i64 0, .slice none 0 0, .slice none 0 0, .slice none 0 0, .slice none 0 0, .slice none 0 0, .slice none 0 0, .slice none 0 0, .slice none 0 0] 31)).cell? ⟨bx, 4, none⟩ = some v4 := hv2.cell 4
  have c5 : (W.alloc (.cells #[.int .i64 0, .slice none 0 0, .slice none 0 0, .slice none 0 0, .slice none 0 0, .slice none 0 0, .slice none 0 0, .slice none 0 0, .slice none 0 0] 31)).cell? ⟨bx, 5, none⟩ = some v5 := hv2.cell 5
  have c6 : (W.alloc (.cells #[.int .i64 0, .slice none 0 0, .slice none 0 0, .slice none 0 0, .slice none 0 0, .slice none 0 0, .slice none 0 0, .slice none 0 0, .slice none 0 0] 31)).cell? ⟨bx, 6, none⟩ = some v6 := hv2.cell 6
  have c7 : (W.alloc (.cells #[.int .i64 0, .slice none 0 0, .slice none 0 0, .slice none 0 0, .slice none 0 0, .slice none 0 0, .slice none 0 0, .slice none 0 0, .slice none 0 0] 31)).cell? ⟨bx, 7, none⟩ = some v7 := hv2.cell 7
  have c8 : (W.alloc (.cells #[.int .i64 0, .slice none 0 0, .slice none 0 0, .slice none 0 0, .slice none 0 0, .slice none 0 0, .slice none 0 0, .slice none 0 0, .slice none 0 0] 31)).cell? ⟨bx, 8, none⟩ = some v8 := hv2.cell 8
  have ce : (W.alloc (.cells #[.int .i64 0, .slice none 0 0, .slice none 0 0, .slice none 0 0, .slice none 0 0, .slice none 0 0, .slice none 0 0, .slice none 0 0, .slice none 0 0] 31)).cell? ⟨be, 0, none⟩ = some (.int .i64 0) := he2.cell 0
  simp [Leaves, settle, results, Tryz.results27, go_sem, h4, h5, c0, c1, c2, c3, c4, c5, c6, c7, c8, ce]
  exact hR
theorem ledleave_up (tm : Array Value) (R : Ending → World → Prop) (k y : Int) (C : Array Value) (hC : C.size = 9) (be bx : Nat) (hne : bx ≠ be) (W : World) (h4 : tm[4]? = some (.pointer (some ⟨bx, 0, none⟩))) (h5 : tm[5]? = some (.pointer (some ⟨be, 0, none⟩)))
    (hv : Box W bx 31 C) (he : Box W be 38 #[.int .i64 y]) (hR : ∀ w', (∀ B, B ≤ be → B ≤ bx → Below B W w') → R (.returned (.tuple #[.agg #[.int .i64 0, .slice none 0 0, .slice none 0 0, .slice none 0 0, .slice none 0 0, .slice none 0 0, .slice none 0 0, .slice none 0 0, .slice none 0 0], .int .i64 k])) w') :
    Leaves Tryz.prog Tryz.f27 tm R [{ target := Target.fn (Fn.func 45) #[.pointer (some ⟨bx, 0, none⟩), .pointer (some ⟨be, 0, none⟩)], args := #[] }] (.panicking [{ v := up k, recovered := false }]) W := by
  refine leaves_cons (f := 45) (args := #[.pointer (some ⟨bx, 0, none⟩), .pointer (some ⟨be, 0, none⟩)]) (by simp) (by simp [go_sem]) ?_
  refine (leddoor_up be bx W k y C hC hne he hv).mono ?_
  rintro e u' w' ⟨rfl, rfl, b1, b2, hb⟩
  have c0 : w'.cell? ⟨bx, 0, none⟩ = some (.int .i64 0) := b2.cell 0
  have c1 : w'.cell? ⟨bx, 1, none⟩ = some (.slice none 0 0) := b2.cell 1
  have c2 : w'.cell? ⟨bx, 2, none⟩ = some (.slice none 0 0) := b2.cell 2
  have c3 : w'.cell? ⟨bx, 3, none⟩ = some (.slice none 0 0) := b2.cell 3
  have c4 : w'.cell? ⟨bx, 4, none⟩ = some (.slice none 0 0) := b2.cell 4
  have c5 : w'.cell? ⟨bx, 5, none⟩ = some (.slice none 0 0) := b2.cell 5
  have c6 : w'.cell? ⟨bx, 6, none⟩ = some (.slice none 0 0) := b2.cell 6
  have c7 : w'.cell? ⟨bx, 7, none⟩ = some (.slice none 0 0) := b2.cell 7
  have c8 : w'.cell? ⟨bx, 8, none⟩ = some (.slice none 0 0) := b2.cell 8
  have ce : w'.cell? ⟨be, 0, none⟩ = some (.int .i64 k) := b1.cell 0
  simp [Leaves, settle, results, Tryz.results27, go_sem, h4, h5, c0, c1, c2, c3, c4, c5, c6, c7, c8, ce]
  exact hR _ hb
end Go.Proofs.YtocjfjikkdpfdaaGreatDoor.ImgW
namespace Go.Proofs.YtocjfjikkdpfdaaGreatDoor.ImgW
open Go.RowKit Go.Proofs.YtocjfjikkdpfdaaGreatDoor.Bas Go.Proofs.YtocjfjikkdpfdaaGreatDoor.LedM Go.Proofs.YtocjfjikkdpfdaaGreatDoor.LedW

def zeroE : EvR := ⟨0, 0, 0, 0, 0, 0, 0, 0, 0, 0, false, []⟩
/-- the event of bytes, all of them; or what is wrong -/
def readE (bs : List UInt8) : EvR × Int := match rdE bs with
  | .error k => (zeroE, k)
  | .ok (x, r) => if 0 < r.length then (zeroE, 13) else (x, 0)
/-- the variables of a reading -/
structure RV (w W : World) (t : TypeId) (C : Array Value) (y : Int) : Prop where
  bx : Box W w.heap.size t C
  be : Box W (w.heap.size + 1) 38 #[.int .i64 y]
  low : Below w.heap.size w W
theorem RV.grown {w A B : World} {t : TypeId} {C : Array Value} {y : Int} (h : RV w A t C y) (k : A.grownBy B (some (w.heap.size + 1 + 1))) : RV w B t C y :=
  ⟨box_grown h.bx k (by omega), box_grown h.be k (by omega), h.low.grown k (by have := h.be.lt; omega) (fun j hj => by cases hj; omega)⟩
set_option maxRecDepth 100000 in
set_option maxHeartbeats 4000000 in
theorem reade_calls (bs : List UInt8) (a : Option Addr) (cap : Nat) (w : World) (hat : At w a (u8s bs)) (hl : bs.length ≤ cap) (hm : cap ≤ maxLen) :
    Calls Tryz.prog 35 #[.slice a bs.length cap, .func (.func 36) #[] #[]] w fun e w' => e = .returned (.tuple #[evV (readE bs).1, .int .i64 (readE bs).2]) ∧ Below w.heap.size w w' := by
  have hmf := hmf
  have n0 : RV w (((w.alloc (.cells #[.int .i64 0, .int .i64 0, .int .i64 0, .int .i64 0, .int .i64 0, .int .i64 0, .int .i64 0, .int .i64 0, .int .i64 0, .int .i64 0, .bool false, .string ⟨#[]⟩] 33)).alloc (.cells #[.int .i64 0] 38)).alloc (.cells #[.slice a bs.length cap] 94)) 33 #[.int .i64 0, .int .i64 0, .int .i64 0, .int .i64 0, .int .i64 0, .int .i64 0, .int .i64 0, .int .i64 0, .int .i64 0, .int .i64 0, .bool false, .string ⟨#[]⟩] 0 := by
    refine ⟨((Box.new w _ _).alloc _).alloc _, ?_, (((Below.refl _ _).alloc (Nat.le_refl _) _).alloc (by rw [World.size_alloc]; omega) _).alloc (by rw [World.size_alloc, World.size_alloc]; omega) _⟩
    have := (Box.new (w.alloc (.cells #[.int .i64 0, .int .i64 0, .int .i64 0, .int .i64 0, .int .i64 0, .int .i64 0, .int .i64 0, .int .i64 0, .int .i64 0, .int .i64 0, .bool false, .string ⟨#[]⟩] 33)) 38 #[.int .i64 0]).alloc (.cells #[.slice a bs.length cap] 94)
    rwa [World.size_alloc] at this
  have n1 : Rd (((w.alloc (.cells #[.int .i64 0, .int .i64 0, .int .i64 0, .int .i64 0, .int .i64 0, .int .i64 0, .int .i64 0, .int .i64 0, .int .i64 0, .int .i64 0, .bool false, .string ⟨#[]⟩] 33)).alloc (.cells #[.int .i64 0] 38)).alloc (.cells #[.slice a bs.length cap] 94)) (w.heap.size + 1 + 1) bs := by
    have := Box.new ((w.alloc (.cells #[.int .i64 0, .int .i64 0, .int .i64 0, .int .i64 0, .int .i64 0, .int .i64 0, .int .i64 0, .int .i64 0, .int .i64 0, .int .i64 0, .bool false, .string ⟨#[]⟩] 33)).alloc (.cells #[.int .i64 0] 38)) 94 #[.slice a bs.length cap]
    rw [World.size_alloc, World.size_alloc] at this
    by_cases hb : bs = []
    · exact ⟨a, cap, this, by rw [hb]; exact At.nil _ _, hl, hm, fun _ _ h => absurd hb h⟩
    · refine ⟨a, cap, this, hat.keep n0.low, hl, hm, fun p hp _ => ?_⟩
      obtain ⟨b, off, s⟩ := p
      have := hat.lt b off s hp (by simpa [u8s] using hb)
      show b < _
      omega
  have HR : Hid (readE bs = match rdE bs with | .error k => (zeroE, k) | .ok (x, r) => if 0 < r.length then (zeroE, 13) else (x, 0)) := rfl
  clear hat
  go_enter_defers Tryz.func35, Tryz.ntmps35
  go_upto_region 3 with fail
  generalize ((w.alloc (.cells #[.int .i64 0, .int .i64 0, .int .i64 0, .int .i64 0, .int .i64 0, .int .i64 0, .int .i64 0, .int .i64 0, .int .i64 0, .int .i64 0, .bool false, .string ⟨#[]⟩] 33)).alloc (.cells #[.int .i64 0] 38)).alloc (.cells #[.slice a bs.length cap] 94) = w0 at *
  have X := Lib.hid n0
  have RD := Lib.hid n1
  clear n0 n1 hmf
  go_upto_region 4 with (first | (go_at_call 36; refine (event_rd _ bs _ RD.out).mono ?_; rintro e w1 ⟨g1, ⟨k, h1, rfl⟩ | ⟨x, r, h1, rfl, rd1, fx⟩⟩; (· refine evleave_up _ _ k 0 #[.int .i64 0, .int .i64 0, .int .i64 0, .int .i64 0, .int .i64 0, .int .i64 0, .int .i64 0, .int .i64 0, .int .i64 0, .int .i64 0, .bool false, .string ⟨#[]⟩] rfl _ _ (by omega) _ rfl rfl (X.out.grown g1).bx (X.out.grown g1).be (fun w' hb => ⟨?_, (X.out.grown g1).low.trans (hb _ (by omega) (by omega))⟩); rw [HR.out, h1]; rfl); have X1 := Lib.hid (X.out.grown g1); have RD1 := Lib.hid rd1; have H1 := Lib.hid h1; clear g1 rd1 h1 X RD; unfold evV) | ((with_reducible refine wpList_store_box rfl 33 (.tmp 4) (.tmp 13) rfl #[.int .i64 x.kind, .int .i64 x.acct, .int .i64 x.id, .int .i64 x.new, .int .i64 x.instr, .int .i64 x.under, .int .i64 x.cur, .int .i64 x.qty, .int .i64 x.price, .int .i64 x.amount, .bool x.call, .string ⟨x.name.toArray⟩] X1.out.bx ?_ ?_ ?_ ?_ ?_ ?_); (· kernel_rfl); (· rfl); (· simp [Value.oneCell']); (· rfl); (· rfl)))
  have X2 : Hid (RV w (w1.setRow w.heap.size #[.int .i64 x.kind, .int .i64 x.acct, .int .i64 x.id, .int .i64 x.new, .int .i64 x.instr, .int .i64 x.under, .int .i64 x.cur, .int .i64 x.qty, .int .i64 x.price, .int .i64 x.amount, .bool x.call, .string ⟨x.name.toArray⟩]) 33 #[.int .i64 x.kind, .int .i64 x.acct, .int .i64 x.id, .int .i64 x.new, .int .i64 x.instr, .int .i64 x.under, .int .i64 x.cur, .int .i64 x.qty, .int .i64 x.price, .int .i64 x.amount, .bool x.call, .string ⟨x.name.toArray⟩] 0) := ⟨X1.out.bx.row _, X1.out.be.farRow (by omega) _, below_setRow X1.out.low (by omega) _⟩
  obtain ⟨a1, c1, hb1, _⟩ := RD1.out.ex
  have k0 : (w1.setRow w.heap.size #[.int .i64 x.kind, .int .i64 x.acct, .int .i64 x.id, .int .i64 x.new, .int .i64 x.instr, .int .i64 x.under, .int .i64 x.cur, .int .i64 x.qty, .int .i64 x.price, .int .i64 x.amount, .bool x.call, .string ⟨x.name.toArray⟩]).cell? ⟨w.heap.size + 1 + 1, 0, none⟩ = some (.slice a1 r.length c1) := (hb1.farRow (k := w.heap.size) (by omega) #[.int .i64 x.kind, .int .i64 x.acct, .int .i64 x.id, .int .i64 x.new, .int .i64 x.instr, .int .i64 x.under, .int .i64 x.cur, .int .i64 x.qty, .int .i64 x.price, .int .i64 x.amount, .bool x.call, .string ⟨x.name.toArray⟩]).cell 0
  clear hb1 X1 RD1
  generalize w1.setRow w.heap.size #[.int .i64 x.kind, .int .i64 x.acct, .int .i64 x.id, .int .i64 x.new, .int .i64 x.instr, .int .i64 x.under, .int .i64 x.cur, .int .i64 x.qty, .int .i64 x.price, .int .i64 x.amount, .bool x.call, .string ⟨x.name.toArray⟩] = w2 at *
  by_cases hr : 0 < r.length
  · have EE : Hid (readE bs = (zeroE, 13)) := by unfold Hid; rw [HR.out, H1.out]; exact if_pos hr
    clear H1 HR
    go_wp2_with fail
    refine evleave_up _ _ 13 0 #[.int .i64 x.kind, .int .i64 x.acct, .int .i64 x.id, .int .i64 x.new, .int .i64 x.instr, .int .i64 x.under, .int .i64 x.cur, .int .i64 x.qty, .int .i64 x.price, .int .i64 x.amount, .bool x.call, .string ⟨x.name.toArray⟩] rfl _ _ (by omega) _ rfl rfl X2.out.bx X2.out.be (fun w' hb => ⟨?_, X2.out.low.trans (hb _ (by omega) (by omega))⟩)
    rw [EE.out]
    rfl
  · have EE : Hid (readE bs = (x, 0)) := by unfold Hid; rw [HR.out, H1.out]; exact if_neg hr
    clear H1 HR
    have X3 : Hid (RV w (w2.setRow w.heap.size #[.int .i64 x.kind, .int .i64 x.acct, .int .i64 x.id, .int .i64 x.new, .int .i64 x.instr, .int .i64 x.under, .int .i64 x.cur, .int .i64 x.qty, .int .i64 x.price, .int .i64 x.amount, .bool x.call, .string ⟨x.name.toArray⟩]) 33 #[.int .i64 x.kind, .int .i64 x.acct, .int .i64 x.id, .int .i64 x.new, .int .i64 x.instr, .int .i64 x.under, .int .i64 x.cur, .int .i64 x.qty, .int .i64 x.price, .int .i64 x.amount, .bool x.call, .string ⟨x.name.toArray⟩] 0) := ⟨X2.out.bx.row _, X2.out.be.farRow (by omega) _, below_setRow X2.out.low (by omega) _⟩
    have ke : (w2.setRow w.heap.size #[.int .i64 x.kind, .int .i64 x.acct, .int .i64 x.id, .int .i64 x.new, .int .i64 x.instr, .int .i64 x.under, .int .i64 x.cur, .int .i64 x.qty, .int .i64 x.price, .int .i64 x.amount, .bool x.call, .string ⟨x.name.toArray⟩]).cell? ⟨w.heap.size + 1, 0, none⟩ = some (.int .i64 0) := X3.out.be.cell 0
    have fe := X3.out.be.frozen 0
    go_wp2_with (first | ((with_reducible refine wpList_load_box rfl 33 (.tmp 4) rfl X2.out.bx Tryz.underlying33 ?_ ?_ ?_ ?_); (· rfl); (· kernel_rfl); (· rfl)) | ((with_reducible refine wpList_store_box rfl 33 (.tmp 4) (.tmp 22) rfl #[.int .i64 x.kind, .int .i64 x.acct, .int .i64 x.id, .int .i64 x.new, .int .i64 x.instr, .int .i64 x.under, .int .i64 x.cur, .int .i64 x.qty, .int .i64 x.price, .int .i64 x.amount, .bool x.call, .string ⟨x.name.toArray⟩] X2.out.bx ?_ ?_ ?_ ?_ ?_ ?_); (· kernel_rfl); (· rfl); (· simp [Value.oneCell']); (· rfl); (· rfl)))
    refine evleave_ok _ _ (.int .i64 x.kind) (.int .i64 x.acct) (.int .i64 x.id) (.int .i64 x.new) (.int .i64 x.instr) (.int .i64 x.under) (.int .i64 x.cur) (.int .i64 x.qty) (.int .i64 x.price) (.int .i64 x.amount) (.bool x.call) (.string ⟨x.name.toArray⟩) _ _ _ rfl rfl (X3.out.bx.far (p := ⟨w.heap.size + 1, 0, none⟩) (by simp) _) (X3.out.be.set 0 _) ⟨?_, ?_⟩
    · rw [EE.out]; rfl
    · exact (X3.out.low.setCell (p := ⟨w.heap.size + 1, 0, none⟩) (by simp) _).alloc (by have := X3.out.be.lt; simp at this ⊢; omega) _
set_option maxRecDepth 100000 in
set_option maxHeartbeats 4000000 in
/-- ReadEvent -/
theorem readevent_calls (bs : List UInt8) (a : Option Addr) (cap : Nat) (w : World) (hat : At w a (u8s bs)) (hl : bs.length ≤ cap) (hm : cap ≤ maxLen) :
    Calls Tryz.prog 16 #[.slice a bs.length cap] w fun e w' => e = .returned (.tuple #[evV (readE bs).1, .int .i64 (readE bs).2]) ∧ Below w.heap.size w w' := by
  have HC := Lib.hid (fun W h => reade_calls bs a cap W h hl hm)
  have hb := Box.new w 33 #[.int .i64 0, .int .i64 0, .int .i64 0, .int .i64 0, .int .i64 0, .int .i64 0, .int .i64 0, .int .i64 0, .int .i64 0, .int .i64 0, .bool false, .string ⟨#[]⟩]
  have hlow := (Below.refl w.heap.size w).alloc (Nat.le_refl _) (.cells #[.int .i64 0, .int .i64 0, .int .i64 0, .int .i64 0, .int .i64 0, .int .i64 0, .int .i64 0, .int .i64 0, .int .i64 0, .int .i64 0, .bool false, .string ⟨#[]⟩] 33)
  have HA := Lib.hid (hat.keep hlow)
  generalize readE bs = p at *
  obtain ⟨x, k⟩ := p
  unfold evV at *
  clear hat
  go_enter Tryz.func16, Tryz.ntmps16
  go_upto_region 1 with fail
  have hsz : (w.alloc (.cells #[.int .i64 0, .int .i64 0, .int .i64 0, .int .i64 0, .int .i64 0, .int .i64 0, .int .i64 0, .int .i64 0, .int .i64 0, .int .i64 0, .bool false, .string ⟨#[]⟩] 33)).heap.size = w.heap.size + 1 := World.size_alloc _ _
  generalize w.alloc (.cells #[.int .i64 0, .int .i64 0, .int .i64 0, .int .i64 0, .int .i64 0, .int .i64 0, .int .i64 0, .int .i64 0, .int .i64 0, .int .i64 0, .bool false, .string ⟨#[]⟩] 33) = w0 at *
  go_wp2_with (first | (go_at_call 35; refine (HC.out _ HA.out).mono ?_; rintro e w1 ⟨rfl, b1⟩; have HB := Lib.hid (hb.below b1 (by omega)); have HL := Lib.hid (hlow.trans (b1.mono (by omega))); clear hb hlow b1) | ((with_reducible refine wpList_store_box rfl 33 (.tmp 2) (.tmp 6) rfl #[.int .i64 x.kind, .int .i64 x.acct, .int .i64 x.id, .int .i64 x.new, .int .i64 x.instr, .int .i64 x.under, .int .i64 x.cur, .int .i64 x.qty, .int .i64 x.price, .int .i64 x.amount, .bool x.call, .string ⟨x.name.toArray⟩] HB.out ?_ ?_ ?_ ?_ ?_ ?_); (· kernel_rfl); (· rfl); (· simp [Value.oneCell']); (· rfl); (· rfl)))
  exact bodyPost_ret (results_cell_slot (by rfl) _ _ (HB.out.row _) Tryz.underlying33 rfl (by kernel_rfl) rfl) rfl ⟨rfl, below_setRow HL.out (Nat.le_refl _) _⟩
end Go.Proofs.YtocjfjikkdpfdaaGreatDoor.ImgW
