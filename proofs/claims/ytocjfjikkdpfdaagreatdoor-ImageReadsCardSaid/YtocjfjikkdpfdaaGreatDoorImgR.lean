/- The document reads: its reader, Read and ReadEvent walked. -/
import Derived.Test.YtocjfjikkdpfdaaGreatDoorImgF
set_option linter.unusedSimpArgs false
set_option linter.unusedVariables false
namespace Go.Proofs.YtocjfjikkdpfdaaGreatDoor.ImgW
open Go.RowKit Go.Proofs.YtocjfjikkdpfdaaGreatDoor.Bas Go.Proofs.YtocjfjikkdpfdaaGreatDoor.LedM Go.Proofs.YtocjfjikkdpfdaaGreatDoor.LedW

/-- the document's reader's box -/
structure RdS (W : World) (g : Nat) (st : ST) : Prop where
  ex : (∃ bs a c, st = .ok bs ∧ Box W g 77 #[.slice a bs.length c, .int .i64 0] ∧ At W a (u8s bs) ∧ bs.length ≤ c ∧ c ≤ maxLen ∧ ∀ p, a = some p → bs ≠ [] → p.block < g) ∨ ∃ k v, st = .error k ∧ (k == 0) = false ∧ Box W g 77 #[v, .int .i64 k]
theorem rds_grownR {w w' : World} {g : Nat} {row : Option Nat} {st : ST} (h : RdS w g st) (hg : w.grownBy w' row) (hb : ∀ j, row = some j → g < j) : RdS w' g st := by
  have hne : ∀ k, k ≤ g → some k ≠ row := fun k hk e => by have := hb k e.symm; omega
  rcases h.ex with ⟨bs, a, c, e0, hx, hat, h1, h2, h3⟩ | ⟨k, v, e0, hk, hx⟩
  · refine ⟨.inl ⟨bs, a, c, e0, (hg.block g hx.lt (hne g (Nat.le_refl _))).trans hx, fun j u hj => ?_, h1, h2, h3⟩⟩
    obtain ⟨b', off', e, hc⟩ := hat j u hj
    have hl := h3 _ e (fun e0 => by rw [e0] at hj; simp [u8s] at hj)
    exact ⟨b', off', e, (World.cell?_of_block (a := ⟨b', off' + j, none⟩) (hg.block b' (Nat.lt_trans hl hx.lt) (hne b' (Nat.le_of_lt hl)))).trans hc⟩
  · exact ⟨.inr ⟨k, v, e0, hk, (hg.block g hx.lt (hne g (Nat.le_refl _))).trans hx⟩⟩
theorem rds_lt {w : World} {g : Nat} {st : ST} (h : RdS w g st) : g < w.heap.size := by
  rcases h.ex with ⟨_, _, _, _, hx, _⟩ | ⟨_, _, _, _, hx⟩ <;> exact hx.lt
theorem rds_below {w w' : World} {g N : Nat} {st : ST} (h : RdS w g st) (b : Below N w w') (hN : g < N) : RdS w' g st := by
  rcases h.ex with ⟨bs, a, c, e0, hx, hat, h1, h2, h3⟩ | ⟨k, v, e0, hk, hx⟩
  · refine ⟨.inl ⟨bs, a, c, e0, hx.below b hN, fun j u hj => ?_, h1, h2, h3⟩⟩
    obtain ⟨b', off', e, hc⟩ := hat j u hj
    have hl : b' < g := h3 _ e (fun e0 => by rw [e0] at hj; simp [u8s] at hj)
    exact ⟨b', off', e, (World.cell?_of_block (a := ⟨b', off' + j, none⟩) (b.block b' (by omega))).trans hc⟩
  · exact ⟨.inr ⟨k, v, e0, hk, hx.below b hN⟩⟩
theorem sN_err (k : Int) : sN (.error k) = (0, .error k) := rfl
theorem sN_bad {bs : List UInt8} {k : Int} (h : rdN bs = .error k) : sN (.ok bs) = (0, .error k) := by simp only [sN, lft, h]
theorem sN_ok {bs : List UInt8} {x : Int} {r : List UInt8} (h : rdN bs = .ok (x, r)) : sN (.ok bs) = (x, .ok r) := by simp only [sN, lft, h]
theorem valN_last (bs : List UInt8) (k : Nat) (hk : k < bs.length) : valN (bs.drop k) = bs[k].toNat + 256 * valN (bs.drop (k + 1)) := by
  rw [List.drop_eq_getElem_cons hk, valN]
theorem or_low (z y : Nat) (hz : z < 72057594037927936) (hy : y < 256) : bits BinOp.or IntKind.u64 (IntKind.u64.wrap ((z : Int) * 256)) (y : Int) = ((y + 256 * z : Nat) : Int) := by
  have h0 : IntKind.u64.wrap ((z : Int) * 256) = ((z * 256 : Nat) : Int) := by rw [IntKind.wrap_u64]; omega
  rw [h0, u64_or_nat (z * 256) y (by omega) (by omega)]
  have h10 : (z * 256) ||| y = z * 256 + y := by
    have := Nat.shiftLeft_add_eq_or_of_lt (b := y) (i := 8) (by omega) z
    rw [Nat.shiftLeft_eq] at this
    simp only [Nat.reducePow] at this
    omega
  rw [h10, Nat.mul_comm z, Nat.add_comm]
set_option maxRecDepth 100000 in
set_option maxHeartbeats 4000000 in
/-- the number -/
theorem rnumber_rd (g : Nat) (st : ST) (w : World) (h : RdS w g st) :
    Calls Tryz.prog 32 #[.pointer (some ⟨g, 0, none⟩)] w fun e w' => ∃ x st', sN st = (x, st') ∧ e = .returned (.int .i64 x) ∧ w.grownBy w' (some g) ∧ RdS w' g st' ∧ FixpW.I64 x := by
  have HI := Lib.hid (sN_i64 st)
  rcases h.ex with ⟨bs, a, c, rfl, hx, hat, h1, h2, h3⟩ | ⟨k, v, rfl, hk, hx⟩
  · have c0 := hx.cell 0
    have c1 := hx.cell 1
    have f0 := hx.frozen 0
    have f1 := hx.frozen 1
    by_cases hl : bs.length < 8
    · have e := Lib.hid (sN_bad (show rdN bs = .error 10 from if_pos hl))
      have HX := Lib.hid hx
      clear hat h3 hx HI h
      go_enter Tryz.func32, Tryz.ntmps32
      go_wp2_with fail
      go_ret
      exact ⟨0, _, e.out, rfl, grown_set _ _ _, ⟨.inr ⟨10, _, rfl, rfl, HX.out.set 1 _⟩⟩, ⟨by decide, by decide⟩⟩
    · have e := Lib.hid (sN_ok (show rdN bs = .ok (decN bs, bs.drop 8) from if_neg hl))
      have hI := HI.out
      rw [e.out] at hI
      have HI2 := Lib.hid hI
      have HX := Lib.hid hx
      have HA := Lib.hid hat
      have H3 := Lib.hid h3
      clear hat h3 hx HI hI h
      go_enter Tryz.func32, Tryz.ntmps32
      go_wp2_with fail
      go_loopw [3, 4] (fun x i wr => ∃ j : Int, -1 ≤ j ∧ j ≤ 7 ∧ i = .int .i64 j ∧ wr = w ∧ x = .int .u64 (valN ((bs.take 8).drop (j + 1).toNat))) (fun _ i _ => (intOf i + 1).toNat)
      case atStart => exact ⟨7, by omega, by omega, rfl, rfl, by rw [List.drop_of_length_le (by rw [List.length_take]; omega)]; rfl⟩
      case round =>
        obtain ⟨j, hj1, hj2, rfl, rfl, rfl⟩ := hrel
        by_cases hlt : 0 ≤ j
        · obtain ⟨m, rfl⟩ : ∃ m : Nat, j = m := ⟨j.toNat, by omega⟩
          have hlb : m < bs.length := by omega
          obtain ⟨b, off, rfl, hcell⟩ := HA.out m _ (u8s_at bs m hlb)
          replace c0 : wr.cell? ⟨g, 0, none⟩ = some (.slice (some ⟨b, off, none⟩) bs.length c) := c0
          have hm8 : m < (bs.take 8).length := by rw [List.length_take]; omega
          have hVL := valN_last (bs.take 8) m hm8
          rw [List.getElem_take] at hVL
          have HV := Lib.hid hVL
          have hz := valN_lt ((bs.take 8).drop (m + 1))
          rw [List.length_drop, List.length_take, Nat.min_eq_left (by omega)] at hz
          have hz2 : valN ((bs.take 8).drop (m + 1)) < 72057594037927936 := Nat.lt_of_lt_of_le hz (by
            have : 256 ^ (8 - (m + 1)) ≤ 256 ^ 7 := Nat.pow_le_pow_right (by decide) (by omega)
            exact Nat.le_trans this (by decide))
          have hy := bs[m].toNat_lt
          have hnat : ((m : Int) + 1).toNat = m + 1 := by omega
          rw [hnat]
          have HOR := Lib.hid (or_low _ _ hz2 hy)
          clear hVL hz hz2 hnat
          generalize bs[m].toNat = y at *
          generalize valN ((bs.take 8).drop (m + 1)) = z at *
          go_wp2_with fail
          go_roundw
          case rel =>
            refine ⟨(m : Int) - 1, by omega, by omega, rfl, trivial, ?_⟩
            rw [show ((m : Int) - 1 + 1).toNat = m by omega, HV.out, HOR.out]
          case measure => simp [intOf]
        · obtain rfl : j = -1 := by omega
          obtain ⟨b, off, rfl, _⟩ := HA.out 0 _ (u8s_at bs 0 (by omega))
          have hd0 : (bs.take 8).drop (-1 + 1 : Int).toNat = bs.take 8 := rfl
          rw [hd0]
          have HY : Hid (decN bs = wrap64 (valN (bs.take 8))) := rfl
          clear hd0
          generalize valN (bs.take 8) = z at *
          have H4 := Lib.hid (H3.out _ rfl (by intro e; rw [e] at hl; simp at hl))
          have c0' : wr.cell? ⟨g, 0, none⟩ = some (.slice (some ⟨b, off, none⟩) bs.length c) := c0
          clear H3 c0
          go_wp2_with fail
          · have h9 : bs.length = 8 := by omega
            have h8 : bs.drop 8 = [] := List.drop_eq_nil_of_le (by omega)
            go_ret
            refine ⟨decN bs, _, e.out, by rw [HY.out]; first | done | rfl, grown_set _ _ _, ⟨.inl ⟨_, some ⟨b, off, none⟩, 0, rfl, ?_, ?_, ?_, by omega, ?_⟩⟩, HI2.out⟩
            · rw [List.length_drop]
              exact HX.out.set 0 _
            · rw [h8]; exact At.nil _ _
            · rw [h8]; simp
            · intro p hp _; cases hp; exact H4.out
          · go_ret
            refine ⟨decN bs, _, e.out, by rw [HY.out]; first | done | rfl, grown_set _ _ _, ⟨.inl ⟨_, some ⟨b, off + 8, none⟩, c - 8, rfl, ?_, ?_, ?_, by omega, ?_⟩⟩, HI2.out⟩
            · rw [List.length_drop]
              exact HX.out.set 0 _
            · have := At.drop HA.out 8
              rw [show (u8s bs).drop 8 = u8s (bs.drop 8) from List.map_drop.symm] at this
              exact at_grown this (grown_set _ _ _) (fun p hp _ => by cases hp; exact Nat.ne_of_lt H4.out)
            · rw [List.length_drop]; omega
            · intro p hp _; cases hp; exact H4.out
  · have c1 := hx.cell 1
    have hk0 : (k != 0) = true := by simpa using hk
    have HH := Lib.hid h
    clear hx HI
    go_enter Tryz.func32, Tryz.ntmps32
    go_wp2_with fail
    go_ret
    exact ⟨0, _, rfl, rfl, World.grownBy.refl _ _, HH.out, ⟨by decide, by decide⟩⟩
theorem rds_next {w : World} {g c : Nat} {a : Option Addr} {r : List UInt8} {v : Value} (hb : Box w g 77 #[.slice a r.length c, v]) (hv : v = .int .i64 0) (hat : At w a (u8s r)) (hl : ∀ p, a = some p → r ≠ [] → p.block < g) (h1 : r.length ≤ c) (h2 : c ≤ maxLen) (n : Nat) :
    RdS (w.setCell ⟨g, 0, none⟩ (.slice (Option.map (fun x => x.add n) a) (r.length - n) (c - n))) g (.ok (r.drop n)) := by
  subst hv
  have hlt : ∀ p, Option.map (fun x : Addr => x.add n) a = some p → r.drop n ≠ [] → p.block < g := fun p hp hn => by
    cases a with
    | none => cases hp
    | some q =>
      cases hp
      have := hl q rfl (fun e => hn (by rw [e, List.drop_nil]))
      unfold Addr.add
      split <;> exact this
  refine ⟨.inl ⟨_, _, c - n, rfl, ?_, ?_, ?_, by omega, hlt⟩⟩
  · rw [List.length_drop]
    exact hb.set 0 _
  · refine at_grown ?_ (grown_set _ _ _) (fun p hp hn => Nat.ne_of_lt (hlt p hp (fun e => hn (by rw [e]; rfl))))
    intro j u hj
    have hj' : (u8s r)[n + j]? = some u := by
      unfold u8s at hj ⊢
      rw [List.map_drop, List.getElem?_drop] at hj
      exact hj
    obtain ⟨b, off, rfl, hc⟩ := hat _ _ hj'
    unfold Addr.add
    by_cases h0 : n = 0
    · subst h0
      exact ⟨b, off, rfl, by simpa using hc⟩
    · exact ⟨b, off + n, by simp [h0], by rw [Nat.add_assoc]; exact hc⟩
  · rw [List.length_drop]; omega
/-- what the count makes of the number -/
def cOf (m n : Int) : ST → Int × ST
  | .error k => (0, .error k)
  | .ok r => if n < 0 ∨ m < n then (0, .error 11) else (n, .ok r)
def tOf (n : Int) : ST → List UInt8 × ST
  | .error k => ([], .error k)
  | .ok r => if (r.length : Int) < n then ([], .error 10) else (r.take n.toNat, .ok (r.drop n.toNat))
theorem sC_of (m : Int) {st st' : ST} {n : Int} (h : sN st = (n, st')) : sC m st = cOf m n st' := by
  cases st with
  | error k =>
    rw [sN_err] at h
    cases h
    rfl
  | ok b =>
    cases hr : rdN b with
    | error k =>
      rw [sN_bad hr] at h
      cases h
      simp only [sC, lft, rdC, hr, cOf]
    | ok p =>
      obtain ⟨x, r⟩ := p
      rw [sN_ok hr] at h
      cases h
      by_cases hc : n < 0 ∨ m < n
      · simp only [sC, lft, rdC, hr, if_pos hc, cOf]
      · simp only [sC, lft, rdC, hr, if_neg hc, cOf]
theorem sT_of {st st' : ST} {n : Int} (h : sC 8 st = (n, st')) : sT st = tOf n st' := by
  cases st with
  | error k =>
    have h0 : sC 8 (.error k) = (0, .error k) := rfl
    rw [h0] at h
    cases h
    rfl
  | ok b =>
    cases hr : rdC 8 b with
    | error k =>
      simp only [sC, lft, hr] at h
      cases h
      simp only [sT, lft, rdT, hr, tOf]
    | ok p =>
      obtain ⟨x, r⟩ := p
      simp only [sC, lft, hr] at h
      cases h
      by_cases hc : (r.length : Int) < n
      · simp only [sT, lft, rdT, hr, if_pos hc, tOf]
      · simp only [sT, lft, rdT, hr, if_neg hc, tOf]
set_option maxRecDepth 100000 in
set_option maxHeartbeats 4000000 in
/-- the count -/
theorem rcount_rd (m : Int) (hm : 0 ≤ m) (g : Nat) (st : ST) (w : World) (h : RdS w g st) :
    Calls Tryz.prog 33 #[.pointer (some ⟨g, 0, none⟩), .int .i64 m] w fun e w' => ∃ x st', sC m st = (x, st') ∧ e = .returned (.int .i64 x) ∧ w.grownBy w' (some g) ∧ RdS w' g st' ∧ 0 ≤ x ∧ x ≤ m := by
  have HN := Lib.hid (rnumber_rd g st w h)
  clear h
  go_enter Tryz.func33, Tryz.ntmps33
  go_upto_region 2 with (go_at_call 32; refine HN.out.mono ?_; rintro e w1 ⟨x, st', hs, rfl, g1, rd1, ix⟩)
  have HC := Lib.hid (sC_of m hs)
  clear HN hs
  have G1 := Lib.hid g1
  have RD1 := Lib.hid rd1
  rcases rd1.ex with ⟨bs, a, c, rfl, hx, hat, h1, h2, h3⟩ | ⟨k, v, rfl, hk, hx⟩
  · have c1 := hx.cell 1
    have f1 := hx.frozen 1
    have HX := Lib.hid hx
    clear hx hat h3 rd1 g1 h1 h2
    simp only [cOf] at HC
    by_cases hx0 : x < 0
    · have HD := Lib.hid (HC.out.trans (if_pos (.inl hx0)))
      clear HC
      go_wp2_with fail
      go_ret
      exact ⟨0, _, HD.out, rfl, G1.out.trans (grown_set _ _ _), ⟨.inr ⟨11, _, rfl, rfl, HX.out.set 1 _⟩⟩, by omega, hm⟩
    · by_cases hxm : m < x
      · have HD := Lib.hid (HC.out.trans (if_pos (.inr hxm)))
        clear HC
        go_wp2_with fail
        go_ret
        exact ⟨0, _, HD.out, rfl, G1.out.trans (grown_set _ _ _), ⟨.inr ⟨11, _, rfl, rfl, HX.out.set 1 _⟩⟩, by omega, hm⟩
      · have HD := Lib.hid (HC.out.trans (if_neg (by omega)))
        clear HC
        go_wp2_with fail
        go_ret
        exact ⟨x, _, HD.out, rfl, G1.out, RD1.out, by omega, by omega⟩
  · have c1 := hx.cell 1
    have hk0 : (k != 0) = true := by simpa using hk
    clear hx rd1 g1
    simp only [cOf] at HC
    go_wp2_with fail
    go_ret
    exact ⟨0, _, HC.out, rfl, G1.out, RD1.out, by omega, hm⟩
set_option maxRecDepth 100000 in
set_option maxHeartbeats 4000000 in
/-- the text -/
theorem rtext_rd (g : Nat) (st : ST) (w : World) (h : RdS w g st) :
    Calls Tryz.prog 34 #[.pointer (some ⟨g, 0, none⟩)] w fun e w' => ∃ x st', sT st = (x, st') ∧ e = .returned (.string ⟨x.toArray⟩) ∧ w.grownBy w' (some g) ∧ RdS w' g st' := by
  have HN := Lib.hid (rcount_rd 8 (by decide) g st w h)
  clear h
  go_enter Tryz.func34, Tryz.ntmps34
  go_upto_region 2 with (go_at_call 33; refine HN.out.mono ?_; rintro e w1 ⟨x, st', hs, rfl, g1, rd1, i1, i2⟩)
  have HC := Lib.hid (sT_of hs)
  clear HN hs
  have G1 := Lib.hid g1
  have RD1 := Lib.hid rd1
  rcases rd1.ex with ⟨bs, a, c, rfl, hx, hat, h1, h2, h3⟩ | ⟨k, v, rfl, hk, hx⟩
  · have c0 : w1.cell? ⟨g, 0, none⟩ = some (.slice a bs.length c) := hx.cell 0
    have f0 : w1.frozen? ⟨g, 0, none⟩ = false := hx.frozen 0
    have c1 : w1.cell? ⟨g, 1, none⟩ = some (.int .i64 0) := hx.cell 1
    have f1 : w1.frozen? ⟨g, 1, none⟩ = false := hx.frozen 1
    have HX := Lib.hid hx
    have HA := Lib.hid hat
    have H3 := Lib.hid h3
    clear hx hat h3 rd1 g1
    simp only [tOf] at HC
    obtain ⟨n, rfl⟩ : ∃ n : Nat, x = n := ⟨x.toNat, by omega⟩
    by_cases hl : (bs.length : Int) < n
    · have HD := Lib.hid (HC.out.trans (if_pos hl))
      clear HC
      go_wp2_with fail
      go_ret
      exact ⟨[], _, HD.out, rfl, G1.out.trans (grown_set _ _ _), ⟨.inr ⟨10, _, rfl, rfl, HX.out.set 1 _⟩⟩⟩
    · have HD := Lib.hid (HC.out.trans (if_neg hl))
      simp only [Int.toNat_natCast] at HD
      clear HC
      have hln : (bs.take n).length = n := by rw [List.length_take]; omega
      have hcv := run_str_at w1 Tryz.underlying37 Tryz.underlying5 Tryz.underlying9 a c (bs.take n) (by have := HA.out.take n; rwa [show (u8s bs).take n = u8s (bs.take n) from List.map_take.symm] at this)
      rw [hln] at hcv
      clear hln
      generalize bs.take n = s at *
      go_wp2_with fail
      · go_ret
        have hrn : bs.drop n = [] := List.drop_eq_nil_of_le (by omega)
        refine ⟨s, _, HD.out, rfl, G1.out.trans (grown_set _ _ _), ⟨.inl ⟨_, a, 0, rfl, ?_, ?_, ?_, by omega, fun _ _ h => absurd hrn h⟩⟩⟩
        · rw [List.length_drop]
          exact HX.out.set 0 _
        · rw [hrn]; exact At.nil _ _
        · rw [hrn]; simp
      · go_ret
        exact ⟨s, _, HD.out, rfl, G1.out.trans (grown_set _ _ _), rds_next HX.out rfl HA.out H3.out h1 h2 n⟩
  · have c1 := hx.cell 1
    have hk0 : (k != 0) = true := by simpa using hk
    clear hx rd1 g1
    simp only [tOf] at HC
    go_wp2_with fail
    go_ret
    exact ⟨[], _, HC.out, rfl, G1.out, RD1.out⟩
end Go.Proofs.YtocjfjikkdpfdaaGreatDoor.ImgW
namespace Go.Proofs.YtocjfjikkdpfdaaGreatDoor.ImgW
open Go.RowKit Go.Proofs.YtocjfjikkdpfdaaGreatDoor.Bas Go.Proofs.YtocjfjikkdpfdaaGreatDoor.LedM Go.Proofs.YtocjfjikkdpfdaaGreatDoor.LedW

theorem stp_eq {α β : Type} {p : α × ST} {x : α} {st : ST} {F : α → ST → β × ST} (h : p = (x, st)) : stp p F = F x st := by rw [h]; rfl
theorem stp_stp {α β γ : Type} (p : α × ST) (F : α → ST → β × ST) (G : β → ST → γ × ST) : stp (stp p F) G = stp p fun x st => stp (F x st) G := rfl
theorem stp_pure {α β : Type} (x : α) (st : ST) (F : α → ST → β × ST) : stp (x, st) F = F x st := rfl
theorem stp_id {α : Type} (p : α × ST) : stp p (fun x st => (x, st)) = p := rfl
theorem spush_zero {σ α β : Type} {q : β × ST} {rd : ST → α × ST} {push : σ → α → σ} {s : σ} {st : ST} {F : σ → ST → β × ST} {n : Nat} (h : q = stp (sPush rd push n s st) F) (hn : n = 0) : q = F s st := by
  subst hn
  exact h
theorem spush_succ {σ α β : Type} {q : β × ST} {rd : ST → α × ST} {push : σ → α → σ} {s : σ} {st : ST} {F : σ → ST → β × ST} {n m : Nat} (h : q = stp (sPush rd push n s st) F) (hn : n = m + 1) : q = stp (rd st) fun x st => stp (sPush rd push m (push s x) st) F := by
  subst hn
  exact h
theorem sB_of {st st' : ST} {n : Int} (h : sC 1 st = (n, st')) : sB st = (decide (n = 1), st') := by unfold sB; rw [h]
def sL6 (n6 : Nat) (l : Led) (b : ST) : Led × ST := sPush sTri addLoc n6 l b
def sL5 (n5 n6 : Nat) (l : Led) (b : ST) : Led × ST := stp (sPush sOrd addOrd n5 l b) (sL6 n6)
def sL4 (n4 n5 n6 : Nat) (l : Led) (b : ST) : Led × ST := stp (sPush sTri addPos n4 l b) (sL5 n5 n6)
def sL3 (n0 n3 n4 n5 n6 : Nat) (l : Led) (b : ST) : Led × ST := stp (sPush (sAcct n0) addAcct n3 l b) (sL4 n4 n5 n6)
def sL2 (n0 n2 n3 n4 n5 n6 : Nat) (l : Led) (b : ST) : Led × ST := stp (sPush sIns addIns n2 l b) (sL3 n0 n3 n4 n5 n6)
def sL1 (n0 n1 n2 n3 n4 n5 n6 : Nat) (l : Led) (b : ST) : Led × ST := stp (sPush sUnd addUnd n1 l b) (sL2 n0 n2 n3 n4 n5 n6)
theorem slists_steps (n0 n1 n2 n3 n4 n5 n6 : Nat) (l : Led) (b : ST) : sLists n0 n1 n2 n3 n4 n5 n6 l b = stp (sPush sCur addCur n0 l b) (sL1 n0 n1 n2 n3 n4 n5 n6) := rfl
/-- counts, one behind the other -/
def cntS {β : Type} (F : List Int → ST → β) : List Int → List Int → ST → β
  | [], ns, st => F ns st
  | m :: ms, ns, st => cntS F ms (ns ++ [(sC m st).1]) (sC m st).2
def listsOf (d : Int) (ns : List Int) (st : ST) : Led × ST := sLists (ns.getD 0 0).toNat (ns.getD 1 0).toNat (ns.getD 2 0).toNat (ns.getD 3 0).toNat (ns.getD 4 0).toNat (ns.getD 5 0).toNat (ns.getD 6 0).toNat (dayL d) st
def mosts : List Int := [4, 6, 12, 16, 64, 32, 32]
theorem sL_cnt (st : ST) : sL st = stp (sN st) fun x0 st => cntS (listsOf x0) mosts [] st := rfl
theorem cnt_step {β : Type} {q : β} {F : List Int → ST → β} {m : Int} {ms ns : List Int} {st st' : ST} {x : Int} (h : q = cntS F (m :: ms) ns st) (hs : sC m st = (x, st')) : q = cntS F ms (ns ++ [x]) st' := by
  rw [h]
  show cntS F ms (ns ++ [(sC m st).1]) (sC m st).2 = _
  rw [hs]
def nbox (ns : List Int) : Array Value := ((ns ++ List.replicate (7 - ns.length) 0).map (Value.int .i64)).toArray
/-- a ledger that the document reads: its boxes -/
structure RN (w W : World) (g gl : Nat) (s : Lists) (l : Led) (st : ST) (nc : Array Value) : Prop where
  rx : RX w W g gl s l
  nb : Box W (gl + 1) 79 nc
  rd : RdS W g st
section
variable {w A B : World} {g gl : Nat} {s s' : Lists} {l l' : Led} {st st' : ST} {nc nc' : Array Value}
theorem RN.call (h : RN w A g gl s l st nc) (k : A.grownBy B (some g)) (rd : RdS B g st') : RN w B g gl s l st' nc := ⟨h.rx.call k, box_grown h.nb k (by have := h.rx.lt.1; omega), rd⟩
theorem RN.beside (h : RN w A g gl s l st nc) (b : Below (gl + 2) A B) : RN w B g gl s l st nc := ⟨h.rx.beside (b.mono (by omega)), h.nb.below b (by omega), rds_below h.rd b (by have := h.rx.lt.1; omega)⟩
theorem RN.below (h : RN w A g gl s l st nc) (b : Below A.heap.size A B) : RN w B g gl s l st nc := h.beside (b.mono h.nb.lt)
theorem RN.alloc (h : RN w A g gl s l st nc) (o : Obj) : RN w (A.alloc o) g gl s l st nc := h.below ((Below.refl _ _).alloc (Nat.le_refl _) o)
theorem RN.drew (h : RN w A g gl s l st nc) : RN w A.drew g gl s l st nc := h.below (bel_of ⟨1, rfl⟩)
theorem RN.far (h : RN w A g gl s l st nc) {ga : Nat} (hg : gl + 2 ≤ ga) (j : Nat) (v : Value) : RN w (A.setCell ⟨ga, j, none⟩ v) g gl s l st nc := h.beside ((Below.refl _ _).setCell (p := ⟨ga, j, none⟩) hg v)
theorem RN.count (h : RN w A g gl s l st nc) (j : Nat) (v : Value) : RN w (A.setCell ⟨gl + 1, j, none⟩ v) g gl s l st (nc.setIfInBounds j v) :=
  ⟨h.rx.beside ((Below.refl _ _).setCell (p := ⟨gl + 1, j, none⟩) (Nat.le_refl _) v), h.nb.set j v, rds_grownR h.rd (grown_set (gl + 1) j v) (fun i hi => by have := h.rx.lt.1; have := Option.some.inj hi; omega)⟩
theorem RN.set (h : RN w A g gl s l st nc) (j : Nat) (v : Value) (hc : (#[.int .i64 l.day, .slice s.a1 l.curs.length s.c1, .slice s.a2 l.unders.length s.c2, .slice s.a3 l.instrs.length s.c3, .slice s.a4 l.accts.length s.c4, .slice s.a5 l.poss.length s.c5, .slice s.a6 l.orders.length s.c6, .slice s.a7 l.avail.length s.c7, .slice s.a8 l.locs.length s.c8] : Array Value).setIfInBounds j v = #[.int .i64 l'.day, .slice s'.a1 l'.curs.length s'.c1, .slice s'.a2 l'.unders.length s'.c2, .slice s'.a3 l'.instrs.length s'.c3, .slice s'.a4 l'.accts.length s'.c4, .slice s'.a5 l'.poss.length s'.c5, .slice s'.a6 l'.orders.length s'.c6, .slice s'.a7 l'.avail.length s'.c7, .slice s'.a8 l'.locs.length s'.c8]) : RN w (A.setCell ⟨gl, j, none⟩ v) g gl s' l' st nc := by
  have hl := h.rx.lt
  refine ⟨⟨grown_of_below (N := w.heap.size) h.rx.gr ((Below.refl _ _).setCell (p := ⟨gl, j, none⟩) (by show w.heap.size ≤ gl; omega) v) (Nat.le_refl _), h.rx.rb.far (p := ⟨gl, j, none⟩) (by simp; omega) v, ?_, h.rx.lt⟩, h.nb.far (p := ⟨gl, j, none⟩) (by simp) v, rds_grownR h.rd (grown_set gl j v) (fun i hi => by have := Option.some.inj hi; omega)⟩
  rw [← hc]
  exact h.rx.bx.set j v
end
end Go.Proofs.YtocjfjikkdpfdaaGreatDoor.ImgW
namespace Go.Proofs.YtocjfjikkdpfdaaGreatDoor.ImgW
open Go.RowKit Go.Proofs.YtocjfjikkdpfdaaGreatDoor.Bas Go.Proofs.YtocjfjikkdpfdaaGreatDoor.LedM Go.Proofs.YtocjfjikkdpfdaaGreatDoor.LedW

set_option maxRecDepth 100000 in
set_option maxHeartbeats 64000000 in
theorem rreadl_calls (bs : List UInt8) (a : Option Addr) (cap : Nat) (w : World) (hat : At w a (u8s bs)) (hl : bs.length ≤ cap) (hm : cap ≤ maxLen) :
    Calls Tryz.prog 15 #[.slice a bs.length cap] w fun e w' => ∃ s us, e = .returned (.tuple #[ledV s (readL bs).1, .int .i64 (readL bs).2]) ∧ LedOwn w.heap.size w' s (readL bs).1 us ∧ Below w.heap.size w w' := by
  obtain ⟨q, hq⟩ : ∃ q, q = sL (.ok bs) := ⟨_, rfl⟩
  have HEnd : Hid (endL q = readL bs) := by unfold Hid; rw [hq]; exact endL_read bs
  have HFit : Hid (∀ l r, q = (l, .ok r) → LedFit l) := fun l r h => sled_fit bs (hq.symm.trans h)
  rw [sL_cnt] at hq
  have E0 := Lib.hid hq
  clear hq
  generalize readL bs = res at HEnd ⊢
  have n2 : Box ((w.alloc (.cells #[.int .i64 0, .slice none 0 0, .slice none 0 0, .slice none 0 0, .slice none 0 0, .slice none 0 0, .slice none 0 0, .slice none 0 0, .slice none 0 0] 31)).alloc (.cells #[.slice a bs.length cap, .int .i64 0] 77)) w.heap.size 31 #[.int .i64 0, .slice none 0 0, .slice none 0 0, .slice none 0 0, .slice none 0 0, .slice none 0 0, .slice none 0 0, .slice none 0 0, .slice none 0 0] := (Box.new w _ _).alloc _
  have n1 : RdS ((w.alloc (.cells #[.int .i64 0, .slice none 0 0, .slice none 0 0, .slice none 0 0, .slice none 0 0, .slice none 0 0, .slice none 0 0, .slice none 0 0, .slice none 0 0] 31)).alloc (.cells #[.slice a bs.length cap, .int .i64 0] 77)) (w.heap.size + 1) (.ok bs) := by
    have hb := Box.new (w.alloc (.cells #[.int .i64 0, .slice none 0 0, .slice none 0 0, .slice none 0 0, .slice none 0 0, .slice none 0 0, .slice none 0 0, .slice none 0 0, .slice none 0 0] 31)) 77 #[.slice a bs.length cap, .int .i64 0]
    rw [World.size_alloc] at hb
    have low : Below w.heap.size w ((w.alloc (.cells #[.int .i64 0, .slice none 0 0, .slice none 0 0, .slice none 0 0, .slice none 0 0, .slice none 0 0, .slice none 0 0, .slice none 0 0, .slice none 0 0] 31)).alloc (.cells #[.slice a bs.length cap, .int .i64 0] 77)) := ((Below.refl _ _).alloc (Nat.le_refl _) _).alloc (by rw [World.size_alloc]; omega) _
    by_cases h0 : bs = []
    · exact ⟨.inl ⟨bs, a, cap, rfl, hb, by rw [h0]; exact At.nil _ _, hl, hm, fun _ _ h => absurd h0 h⟩⟩
    · refine ⟨.inl ⟨bs, a, cap, rfl, hb, hat.keep low, hl, hm, fun p hp _ => ?_⟩⟩
      obtain ⟨b, off, s⟩ := p
      have := hat.lt b off s hp (by simpa [u8s] using h0)
      show b < _
      omega
  have hz0 : ((w.alloc (.cells #[.int .i64 0, .slice none 0 0, .slice none 0 0, .slice none 0 0, .slice none 0 0, .slice none 0 0, .slice none 0 0, .slice none 0 0, .slice none 0 0] 31)).alloc (.cells #[.slice a bs.length cap, .int .i64 0] 77)).heap.size = w.heap.size + 1 + 1 := by rw [World.size_alloc, World.size_alloc]
  have GW : w.grownBy ((w.alloc (.cells #[.int .i64 0, .slice none 0 0, .slice none 0 0, .slice none 0 0, .slice none 0 0, .slice none 0 0, .slice none 0 0, .slice none 0 0, .slice none 0 0] 31)).alloc (.cells #[.slice a bs.length cap, .int .i64 0] 77)) (some (w.heap.size + 1)) := (World.grownBy_alloc _ _ _).trans (World.grownBy_alloc _ _ _)
  clear hat hl hm
  unfold ledV
  go_enter Tryz.func15, Tryz.ntmps15
  go_upto_region 2 with fail
  generalize hw0 : ((w.alloc (.cells #[.int .i64 0, .slice none 0 0, .slice none 0 0, .slice none 0 0, .slice none 0 0, .slice none 0 0, .slice none 0 0, .slice none 0 0, .slice none 0 0] 31)).alloc (.cells #[.slice a bs.length cap, .int .i64 0] 77)) = w0 at *
  generalize hg : w.heap.size + 1 = g at *
  have N1 := Lib.hid n1
  have N2 := Lib.hid n2
  clear n1 n2 hw0
  go_upto_region 3 with (first | (go_at_call 32; refine (rnumber_rd g _ _ N1.out).mono ?_; rintro e w1 ⟨x0, st0, hs, rfl, g1, rd1, i0⟩; have E1 := Lib.hid (E0.out.trans (stp_eq hs)); have HB1 := Box.new w1 31 #[.int .i64 0, .slice none 0 0, .slice none 0 0, .slice none 0 0, .slice none 0 0, .slice none 0 0, .slice none 0 0, .slice none 0 0, .slice none 0 0]; have hz1 := g1.size) | ((with_reducible refine wpList_store_box rfl 31 (.tmp 5) (.tmp 29) rfl #[.int .i64 x0, .slice none 0 0, .slice none 0 0, .slice none 0 0, .slice none 0 0, .slice none 0 0, .slice none 0 0, .slice none 0 0, .slice none 0 0] HB1 ?_ ?_ ?_ ?_ ?_ ?_); (· kernel_rfl); (· rfl); (· simp [Value.oneCell']); (· rfl); (· rfl)))
  have b2 : Below w1.heap.size w1 ((w1.alloc (.cells #[.int .i64 0, .slice none 0 0, .slice none 0 0, .slice none 0 0, .slice none 0 0, .slice none 0 0, .slice none 0 0, .slice none 0 0, .slice none 0 0] 31)).setRow w1.heap.size #[.int .i64 x0, .slice none 0 0, .slice none 0 0, .slice none 0 0, .slice none 0 0, .slice none 0 0, .slice none 0 0, .slice none 0 0, .slice none 0 0]) := below_setRow ((Below.refl _ _).alloc (Nat.le_refl _) _) (Nat.le_refl _) _
  have hlt : g < w1.heap.size ∧ w.heap.size < w1.heap.size ∧ g ≠ w.heap.size := ⟨by omega, by omega, by omega⟩
  have X : RX w ((w1.alloc (.cells #[.int .i64 0, .slice none 0 0, .slice none 0 0, .slice none 0 0, .slice none 0 0, .slice none 0 0, .slice none 0 0, .slice none 0 0, .slice none 0 0] 31)).setRow w1.heap.size #[.int .i64 x0, .slice none 0 0, .slice none 0 0, .slice none 0 0, .slice none 0 0, .slice none 0 0, .slice none 0 0, .slice none 0 0, .slice none 0 0]) g w1.heap.size zeroS (dayL x0) := ⟨grown_of_below (GW.trans g1) b2 (by omega), (box_grown N2.out g1 (by omega)).keep b2, HB1.row _, hlt⟩
  have RD : RdS ((w1.alloc (.cells #[.int .i64 0, .slice none 0 0, .slice none 0 0, .slice none 0 0, .slice none 0 0, .slice none 0 0, .slice none 0 0, .slice none 0 0, .slice none 0 0] 31)).setRow w1.heap.size #[.int .i64 x0, .slice none 0 0, .slice none 0 0, .slice none 0 0, .slice none 0 0, .slice none 0 0, .slice none 0 0, .slice none 0 0, .slice none 0 0]) g st0 := rds_below rd1 b2 hlt.1
  have hzz : ((w1.alloc (.cells #[.int .i64 0, .slice none 0 0, .slice none 0 0, .slice none 0 0, .slice none 0 0, .slice none 0 0, .slice none 0 0, .slice none 0 0, .slice none 0 0] 31)).setRow w1.heap.size #[.int .i64 x0, .slice none 0 0, .slice none 0 0, .slice none 0 0, .slice none 0 0, .slice none 0 0, .slice none 0 0, .slice none 0 0, .slice none 0 0]).heap.size = w1.heap.size + 1 := by simp
  clear b2 HB1 N1 N2 g1 rd1 GW hs E0
  generalize ((w1.alloc (.cells #[.int .i64 0, .slice none 0 0, .slice none 0 0, .slice none 0 0, .slice none 0 0, .slice none 0 0, .slice none 0 0, .slice none 0 0, .slice none 0 0] 31)).setRow w1.heap.size #[.int .i64 x0, .slice none 0 0, .slice none 0 0, .slice none 0 0, .slice none 0 0, .slice none 0 0, .slice none 0 0, .slice none 0 0, .slice none 0 0]) = w2 at *
  generalize w1.heap.size = gl at *
  have XA := Lib.hid X
  have RDA := Lib.hid RD
  have HZZ := Lib.hid hzz
  have HBN := Box.new w2 79 #[.int .i64 0, .int .i64 0, .int .i64 0, .int .i64 0, .int .i64 0, .int .i64 0, .int .i64 0]
  rw [hzz] at HBN
  clear X RD hzz hz1 hz0
  have HG := Lib.hid hg
  clear hg
  go_upto_region 4 with fail
  simp only [HZZ.out]
  have bn : Below w2.heap.size w2 (w2.alloc (.cells #[.int .i64 0, .int .i64 0, .int .i64 0, .int .i64 0, .int .i64 0, .int .i64 0, .int .i64 0] 79)) := (Below.refl _ _).alloc (Nat.le_refl _) _
  have XI : Hid (RN w (w2.alloc (.cells #[.int .i64 0, .int .i64 0, .int .i64 0, .int .i64 0, .int .i64 0, .int .i64 0, .int .i64 0] 79)) g gl zeroS (dayL x0) st0 (nbox [])) := ⟨XA.out.below bn, HBN, rds_below RDA.out bn (by have := HZZ.out; omega)⟩
  have HO : Hid (LedOwn (gl + 2) (w2.alloc (.cells #[.int .i64 0, .int .i64 0, .int .i64 0, .int .i64 0, .int .i64 0, .int .i64 0, .int .i64 0] 79)) zeroS (dayL x0) []) := ⟨World.ownsRow_nil _ _ _ _, World.ownsRow_nil _ _ _ _, World.ownsRow_nil _ _ _ _, World.ownsRow_nil _ _ _ _, World.ownsRow_nil _ _ _ _, World.ownsRow_nil _ _ _ _, World.ownsRow_nil _ _ _ _, World.ownsRow_nil _ _ _ _, rfl, by simp, by simp, by simp⟩
  clear bn XA RDA HBN HZZ
  generalize (w2.alloc (.cells #[.int .i64 0, .int .i64 0, .int .i64 0, .int .i64 0, .int .i64 0, .int .i64 0, .int .i64 0] 79)) = w3 at *
  have E : Hid (q = cntS (listsOf x0) (mosts.drop 0) [] st0) := E1
  clear E1
  go_wp2_with fail
  go_loopw [32] (fun i wr => ∃ (ns : List Int) (st : ST), ns.length ≤ 7 ∧ i = .int .i64 (ns.length : Int) ∧ RN w wr g gl zeroS (dayL x0) st (nbox ns) ∧ LedOwn (gl + 2) wr zeroS (dayL x0) [] ∧ Hid (q = cntS (listsOf x0) (mosts.drop ns.length) ns st) ∧ Hid (∀ x ∈ ns, 0 ≤ x ∧ x ≤ 64)) (fun i _ => 7 - (intOf i).toNat)
  case atStart => exact ⟨[], st0, by decide, rfl, XI.out, HO.out, E, fun x hx => by simp at hx⟩
  case round =>
    clear XI HO E
    obtain ⟨ns, st, hn, rfl, XR, OR, E, HB⟩ := hrel
    have XI := Lib.hid XR
    have HO := Lib.hid OR
    clear XR OR
    rcases ns with _ | ⟨a0, ns⟩
    · have ck : wr.cell? ⟨gl + 1, 0, none⟩ = some (.int .i64 0) := XI.out.nb.cell 0
      have fk : wr.frozen? ⟨gl + 1, 0, none⟩ = false := XI.out.nb.frozen 0
      clear ck fk
      have hix : ∀ W : World, (Instr.index 79 (.agg #[.int .i64 4, .int .i64 6, .int .i64 12, .int .i64 16, .int .i64 64, .int .i64 32, .int .i64 32]) (.int .i64 0)).run Tryz.prog W = .ok (.int .i64 4) W := fun _ => rfl
      simp only [List.length_nil, List.length_cons, Nat.zero_add, Nat.reduceAdd, Int.cast_ofNat_Int, Int.natCast_zero, Int.natCast_one]
      go_wp2_with (go_at_call 33; refine (rcount_rd 4 (by decide) g _ _ XI.out.rd).mono ?_; rintro e w5 ⟨y, st5, hs, rfl, g5, rd5, y1, y2⟩; have X5 := Lib.hid (XI.out.call g5 rd5); have O5 := Lib.hid (HO.out.other g5 (by have := XI.out.rx.lt.1; omega)); have E5 := Lib.hid (cnt_step (m := 4) E.out hs); have ck : w5.cell? ⟨gl + 1, 0, none⟩ = some (.int .i64 0) := X5.out.nb.cell 0; have fk : w5.frozen? ⟨gl + 1, 0, none⟩ = false := X5.out.nb.frozen 0; clear hs g5 rd5)
      go_roundw
      case rel => exact ⟨[y], st5, by simp, by first | rfl | go_num, X5.out.count 0 (.int .i64 y), O5.out.other (grown_set (gl + 1) 0 (.int .i64 y)) (by omega), E5, fun x hx => by rw [List.mem_singleton.1 hx]; omega⟩
      case measure => simp [intOf]
    rcases ns with _ | ⟨a1, ns⟩
    · have ck : wr.cell? ⟨gl + 1, 1, none⟩ = some (.int .i64 0) := XI.out.nb.cell 1
      have fk : wr.frozen? ⟨gl + 1, 1, none⟩ = false := XI.out.nb.frozen 1
      clear ck fk
      have hix : ∀ W : World, (Instr.index 79 (.agg #[.int .i64 4, .int .i64 6, .int .i64 12, .int .i64 16, .int .i64 64, .int .i64 32, .int .i64 32]) (.int .i64 1)).run Tryz.prog W = .ok (.int .i64 6) W := fun _ => rfl
      simp only [List.length_nil, List.length_cons, Nat.zero_add, Nat.reduceAdd, Int.cast_ofNat_Int, Int.natCast_zero, Int.natCast_one]
      go_wp2_with (go_at_call 33; refine (rcount_rd 6 (by decide) g _ _ XI.out.rd).mono ?_; rintro e w5 ⟨y, st5, hs, rfl, g5, rd5, y1, y2⟩; have X5 := Lib.hid (XI.out.call g5 rd5); have O5 := Lib.hid (HO.out.other g5 (by have := XI.out.rx.lt.1; omega)); have E5 := Lib.hid (cnt_step (m := 6) E.out hs); have ck : w5.cell? ⟨gl + 1, 1, none⟩ = some (.int .i64 0) := X5.out.nb.cell 1; have fk : w5.frozen? ⟨gl + 1, 1, none⟩ = false := X5.out.nb.frozen 1; clear hs g5 rd5)
      go_roundw
      case rel => exact ⟨[a0] ++ [y], st5, by simp, by first | rfl | go_num, X5.out.count 1 (.int .i64 y), O5.out.other (grown_set (gl + 1) 1 (.int .i64 y)) (by omega), E5, fun x hx => by rcases List.mem_append.1 hx with hx | hx; exact HB.out x hx; rw [List.mem_singleton.1 hx]; omega⟩
      case measure => simp [intOf]
    rcases ns with _ | ⟨a2, ns⟩
    · have ck : wr.cell? ⟨gl + 1, 2, none⟩ = some (.int .i64 0) := XI.out.nb.cell 2
      have fk : wr.frozen? ⟨gl + 1, 2, none⟩ = false := XI.out.nb.frozen 2
      clear ck fk
      have hix : ∀ W : World, (Instr.index 79 (.agg #[.int .i64 4, .int .i64 6, .int .i64 12, .int .i64 16, .int .i64 64, .int .i64 32, .int .i64 32]) (.int .i64 2)).run Tryz.prog W = .ok (.int .i64 12) W := fun _ => rfl
      simp only [List.length_nil, List.length_cons, Nat.zero_add, Nat.reduceAdd, Int.cast_ofNat_Int, Int.natCast_zero, Int.natCast_one]
      go_wp2_with (go_at_call 33; refine (rcount_rd 12 (by decide) g _ _ XI.out.rd).mono ?_; rintro e w5 ⟨y, st5, hs, rfl, g5, rd5, y1, y2⟩; have X5 := Lib.hid (XI.out.call g5 rd5); have O5 := Lib.hid (HO.out.other g5 (by have := XI.out.rx.lt.1; omega)); have E5 := Lib.hid (cnt_step (m := 12) E.out hs); have ck : w5.cell? ⟨gl + 1, 2, none⟩ = some (.int .i64 0) := X5.out.nb.cell 2; have fk : w5.frozen? ⟨gl + 1, 2, none⟩ = false := X5.out.nb.frozen 2; clear hs g5 rd5)
      go_roundw
      case rel => exact ⟨[a0, a1] ++ [y], st5, by simp, by first | rfl | go_num, X5.out.count 2 (.int .i64 y), O5.out.other (grown_set (gl + 1) 2 (.int .i64 y)) (by omega), E5, fun x hx => by rcases List.mem_append.1 hx with hx | hx; exact HB.out x hx; rw [List.mem_singleton.1 hx]; omega⟩
      case measure => simp [intOf]
    rcases ns with _ | ⟨a3, ns⟩
    · have ck : wr.cell? ⟨gl + 1, 3, none⟩ = some (.int .i64 0) := XI.out.nb.cell 3
      have fk : wr.frozen? ⟨gl + 1, 3, none⟩ = false := XI.out.nb.frozen 3
      clear ck fk
      have hix : ∀ W : World, (Instr.index 79 (.agg #[.int .i64 4, .int .i64 6, .int .i64 12, .int .i64 16, .int .i64 64, .int .i64 32, .int .i64 32]) (.int .i64 3)).run Tryz.prog W = .ok (.int .i64 16) W := fun _ => rfl
      simp only [List.length_nil, List.length_cons, Nat.zero_add, Nat.reduceAdd, Int.cast_ofNat_Int, Int.natCast_zero, Int.natCast_one]
      go_wp2_with (go_at_call 33; refine (rcount_rd 16 (by decide) g _ _ XI.out.rd).mono ?_; rintro e w5 ⟨y, st5, hs, rfl, g5, rd5, y1, y2⟩; have X5 := Lib.hid (XI.out.call g5 rd5); have O5 := Lib.hid (HO.out.other g5 (by have := XI.out.rx.lt.1; omega)); have E5 := Lib.hid (cnt_step (m := 16) E.out hs); have ck : w5.cell? ⟨gl + 1, 3, none⟩ = some (.int .i64 0) := X5.out.nb.cell 3; have fk : w5.frozen? ⟨gl + 1, 3, none⟩ = false := X5.out.nb.frozen 3; clear hs g5 rd5)
      go_roundw
      case rel => exact ⟨[a0, a1, a2] ++ [y], st5, by simp, by first | rfl | go_num, X5.out.count 3 (.int .i64 y), O5.out.other (grown_set (gl + 1) 3 (.int .i64 y)) (by omega), E5, fun x hx => by rcases List.mem_append.1 hx with hx | hx; exact HB.out x hx; rw [List.mem_singleton.1 hx]; omega⟩
      case measure => simp [intOf]
    rcases ns with _ | ⟨a4, ns⟩
    · have ck : wr.cell? ⟨gl + 1, 4, none⟩ = some (.int .i64 0) := XI.out.nb.cell 4
      have fk : wr.frozen? ⟨gl + 1, 4, none⟩ = false := XI.out.nb.frozen 4
      clear ck fk
      have hix : ∀ W : World, (Instr.index 79 (.agg #[.int .i64 4, .int .i64 6, .int .i64 12, .int .i64 16, .int .i64 64, .int .i64 32, .int .i64 32]) (.int .i64 4)).run Tryz.prog W = .ok (.int .i64 64) W := fun _ => rfl
      simp only [List.length_nil, List.length_cons, Nat.zero_add, Nat.reduceAdd, Int.cast_ofNat_Int, Int.natCast_zero, Int.natCast_one]
      go_wp2_with (go_at_call 33; refine (rcount_rd 64 (by decide) g _ _ XI.out.rd).mono ?_; rintro e w5 ⟨y, st5, hs, rfl, g5, rd5, y1, y2⟩; have X5 := Lib.hid (XI.out.call g5 rd5); have O5 := Lib.hid (HO.out.other g5 (by have := XI.out.rx.lt.1; omega)); have E5 := Lib.hid (cnt_step (m := 64) E.out hs); have ck : w5.cell? ⟨gl + 1, 4, none⟩ = some (.int .i64 0) := X5.out.nb.cell 4; have fk : w5.frozen? ⟨gl + 1, 4, none⟩ = false := X5.out.nb.frozen 4; clear hs g5 rd5)
      go_roundw
      case rel => exact ⟨[a0, a1, a2, a3] ++ [y], st5, by simp, by first | rfl | go_num, X5.out.count 4 (.int .i64 y), O5.out.other (grown_set (gl + 1) 4 (.int .i64 y)) (by omega), E5, fun x hx => by rcases List.mem_append.1 hx with hx | hx; exact HB.out x hx; rw [List.mem_singleton.1 hx]; omega⟩
      case measure => simp [intOf]
    rcases ns with _ | ⟨a5, ns⟩
    · have ck : wr.cell? ⟨gl + 1, 5, none⟩ = some (.int .i64 0) := XI.out.nb.cell 5
      have fk : wr.frozen? ⟨gl + 1, 5, none⟩ = false := XI.out.nb.frozen 5
      clear ck fk
      have hix : ∀ W : World, (Instr.index 79 (.agg #[.int .i64 4, .int .i64 6, .int .i64 12, .int .i64 16, .int .i64 64, .int .i64 32, .int .i64 32]) (.int .i64 5)).run Tryz.prog W = .ok (.int .i64 32) W := fun _ => rfl
      simp only [List.length_nil, List.length_cons, Nat.zero_add, Nat.reduceAdd, Int.cast_ofNat_Int, Int.natCast_zero, Int.natCast_one]
      go_wp2_with (go_at_call 33; refine (rcount_rd 32 (by decide) g _ _ XI.out.rd).mono ?_; rintro e w5 ⟨y, st5, hs, rfl, g5, rd5, y1, y2⟩; have X5 := Lib.hid (XI.out.call g5 rd5); have O5 := Lib.hid (HO.out.other g5 (by have := XI.out.rx.lt.1; omega)); have E5 := Lib.hid (cnt_step (m := 32) E.out hs); have ck : w5.cell? ⟨gl + 1, 5, none⟩ = some (.int .i64 0) := X5.out.nb.cell 5; have fk : w5.frozen? ⟨gl + 1, 5, none⟩ = false := X5.out.nb.frozen 5; clear hs g5 rd5)
      go_roundw
      case rel => exact ⟨[a0, a1, a2, a3, a4] ++ [y], st5, by simp, by first | rfl | go_num, X5.out.count 5 (.int .i64 y), O5.out.other (grown_set (gl + 1) 5 (.int .i64 y)) (by omega), E5, fun x hx => by rcases List.mem_append.1 hx with hx | hx; exact HB.out x hx; rw [List.mem_singleton.1 hx]; omega⟩
      case measure => simp [intOf]
    rcases ns with _ | ⟨a6, ns⟩
    · have ck : wr.cell? ⟨gl + 1, 6, none⟩ = some (.int .i64 0) := XI.out.nb.cell 6
      have fk : wr.frozen? ⟨gl + 1, 6, none⟩ = false := XI.out.nb.frozen 6
      clear ck fk
      have hix : ∀ W : World, (Instr.index 79 (.agg #[.int .i64 4, .int .i64 6, .int .i64 12, .int .i64 16, .int .i64 64, .int .i64 32, .int .i64 32]) (.int .i64 6)).run Tryz.prog W = .ok (.int .i64 32) W := fun _ => rfl
      simp only [List.length_nil, List.length_cons, Nat.zero_add, Nat.reduceAdd, Int.cast_ofNat_Int, Int.natCast_zero, Int.natCast_one]
      go_wp2_with (go_at_call 33; refine (rcount_rd 32 (by decide) g _ _ XI.out.rd).mono ?_; rintro e w5 ⟨y, st5, hs, rfl, g5, rd5, y1, y2⟩; have X5 := Lib.hid (XI.out.call g5 rd5); have O5 := Lib.hid (HO.out.other g5 (by have := XI.out.rx.lt.1; omega)); have E5 := Lib.hid (cnt_step (m := 32) E.out hs); have ck : w5.cell? ⟨gl + 1, 6, none⟩ = some (.int .i64 0) := X5.out.nb.cell 6; have fk : w5.frozen? ⟨gl + 1, 6, none⟩ = false := X5.out.nb.frozen 6; clear hs g5 rd5)
      go_roundw
      case rel => exact ⟨[a0, a1, a2, a3, a4, a5] ++ [y], st5, by simp, by first | rfl | go_num, X5.out.count 6 (.int .i64 y), O5.out.other (grown_set (gl + 1) 6 (.int .i64 y)) (by omega), E5, fun x hx => by rcases List.mem_append.1 hx with hx | hx; exact HB.out x hx; rw [List.mem_singleton.1 hx]; omega⟩
      case measure => simp [intOf]
    rcases ns with _ | ⟨a7, ns⟩
    case cons => simp at hn
    have E1 : Hid (q = stp (sPush sCur addCur a0.toNat (dayL x0) st) (sL1 a0.toNat a1.toNat a2.toNat a3.toNat a4.toNat a5.toNat a6.toNat)) := E
    clear E
    obtain ⟨i0, j0⟩ := HB.out a0 (by simp)
    obtain ⟨i1, j1⟩ := HB.out a1 (by simp)
    obtain ⟨i2, j2⟩ := HB.out a2 (by simp)
    obtain ⟨i3, j3⟩ := HB.out a3 (by simp)
    obtain ⟨i4, j4⟩ := HB.out a4 (by simp)
    obtain ⟨i5, j5⟩ := HB.out a5 (by simp)
    obtain ⟨i6, j6⟩ := HB.out a6 (by simp)
    clear HB hn
    obtain ⟨m0, rfl⟩ : ∃ m : Nat, a0 = m := ⟨a0.toNat, by omega⟩
    obtain ⟨m1, rfl⟩ : ∃ m : Nat, a1 = m := ⟨a1.toNat, by omega⟩
    obtain ⟨m2, rfl⟩ : ∃ m : Nat, a2 = m := ⟨a2.toNat, by omega⟩
    obtain ⟨m3, rfl⟩ : ∃ m : Nat, a3 = m := ⟨a3.toNat, by omega⟩
    obtain ⟨m4, rfl⟩ : ∃ m : Nat, a4 = m := ⟨a4.toNat, by omega⟩
    obtain ⟨m5, rfl⟩ : ∃ m : Nat, a5 = m := ⟨a5.toNat, by omega⟩
    obtain ⟨m6, rfl⟩ : ∃ m : Nat, a6 = m := ⟨a6.toNat, by omega⟩
    simp only [Int.toNat_natCast] at E1
    have E := E1
    clear E1
    simp only [List.length_nil, List.length_cons, Nat.zero_add, Nat.reduceAdd, Int.cast_ofNat_Int]
    have hl := XI.out.rx.lt
    clear w3 w0 w1 hlt i0 i1 i2 i3 i4 i5 i6
    go_wp2_with fail
    go_loopw [9] (fun i wr => ∃ (k : Nat) (l : Led) (s : Lists) (us : List (Value × Acc)) (st : ST), k ≤ m0 ∧ i = .int .i64 (k : Int) ∧ RN w wr g gl s l st (nbox [(m0 : Int), m1, m2, m3, m4, m5, m6]) ∧ LedOwn (gl + 2) wr s l us ∧ Hid (q = stp (sPush sCur addCur (m0 - k) l st) (sL1 m0 m1 m2 m3 m4 m5 m6)) ∧ Hid (l.curs.length = k) ∧ Hid (nil2 l) ∧ us = []) (fun i _ => m0 - (intOf i).toNat)
    case atStart => exact ⟨0, _, _, _, _, by omega, rfl, XI.out, HO.out, E, rfl, ⟨rfl, rfl, rfl, rfl, rfl, rfl, rfl⟩, rfl⟩
    case round =>
      clear XI E HO
      obtain ⟨k, l, s, us, st, hk, rfl, XR, OR, ER, HLen, HNil, rfl⟩ := hrel
      have XI := Lib.hid XR
      have HO := Lib.hid OR
      have kn : wr.cell? ⟨gl + 1, 0, none⟩ = some (.int .i64 (m0 : Int)) := XI.out.nb.cell 0
      clear XR OR
      by_cases hlt : k < m0
      · have E0 := Lib.hid (spush_succ (m := m0 - (k + 1)) ER.out (by omega))
        clear ER
        simp only [sCur, stp_stp, stp_pure] at E0
        have X0 := XI
        have O0 := HO
        clear XI HO
        go_upto_region 13 with (first | (go_at_call 32; refine (rnumber_rd g _ _ X0.out.rd).mono ?_; rintro e w1 ⟨x0, st1, hs, rfl, gg, rd, d0⟩; have X1 := Lib.hid (X0.out.call gg rd); have E1 := Lib.hid (E0.out.trans (stp_eq hs)); have O1 := Lib.hid (O0.out.other gg (by omega)); clear hs gg rd; have HBR := Box.new w1 55 #[.int .i64 0, .int .i64 0]) | ((with_reducible refine wpList_store_box rfl 55 (.tmp 10) (.tmp 50) rfl #[.int .i64 x0, .int .i64 0] HBR ?_ ?_ ?_ ?_ ?_ ?_); (· kernel_rfl); (· rfl); (· simp [Value.oneCell']); (· rfl); (· rfl)))
        have bq : Below w1.heap.size w1 ((w1.alloc (.cells #[.int .i64 0, .int .i64 0] 55)).setRow w1.heap.size #[.int .i64 x0, .int .i64 0]) := below_setRow ((Below.refl _ _).alloc (Nat.le_refl _) _) (Nat.le_refl _) _
        have hga : gl + 2 ≤ w1.heap.size := X1.out.nb.lt
        have XQ := Lib.hid (X1.out.below bq)
        have OQ := Lib.hid (O1.out.below bq)
        have HU := Lib.hid O1.out.lies
        have B1 := Lib.hid (HBR.row #[.int .i64 x0, .int .i64 0])
        clear bq X1 O1 HBR X0 O0 E0 kn
        generalize (w1.alloc (.cells #[.int .i64 0, .int .i64 0] 55)).setRow w1.heap.size #[.int .i64 x0, .int .i64 0] = wq at *
        generalize w1.heap.size = ga at *
        have X1 := XQ
        have O1 := OQ
        clear XQ OQ
        go_upto_region 14 with (go_at_call 32; refine (rnumber_rd g _ _ X1.out.rd).mono ?_; rintro e w2 ⟨x1, st2, hs, rfl, gg, rd, d1⟩; have X2 := Lib.hid (X1.out.call gg rd); have E2 := Lib.hid (E1.out.trans (stp_eq hs)); have O2 := Lib.hid (O1.out.other gg (by omega)); have B2 := Lib.hid (box_grown B1.out gg (by omega)); have ck : w2.cell? ⟨ga, 1, none⟩ = some (.int .i64 0) := B2.out.cell 1; have fk : w2.frozen? ⟨ga, 1, none⟩ = false := B2.out.frozen 1; clear hs gg rd)
        change Code.wp _ _ _ _ (w2.setCell ⟨ga, 1, none⟩ (.int .i64 x1))
        have XQ := Lib.hid (X2.out.far hga 1 (.int .i64 x1))
        have OQ := Lib.hid (O2.out.under HU.out ((Below.refl _ _).setCell (p := ⟨ga, 1, none⟩) (Nat.le_refl _) (.int .i64 x1)))
        have BQ : Hid (Box (w2.setCell ⟨ga, 1, none⟩ (.int .i64 x1)) ga 55 #[.int .i64 x0, .int .i64 x1]) := B2.out.set 1 (.int .i64 x1)
        clear ck fk X2 O2 B2 X1 O1 B1 E1
        generalize w2.setCell ⟨ga, 1, none⟩ (.int .i64 x1) = wq at *
        have X2 := XQ
        have O2 := OQ
        have B2 := BQ
        clear XQ OQ BQ
        have k4 : wq.cell? ⟨gl, 1, none⟩ = some (.slice s.a1 l.curs.length s.c1) := X2.out.rx.bx.cell 1
        have b0 : wq.cell? ⟨ga, 0, none⟩ = some (.int .i64 x0) := B2.out.cell 0
        have b1 : wq.cell? ⟨ga, 1, none⟩ = some (.int .i64 x1) := B2.out.cell 1
        have hbase : gl + 2 ≤ (wq.alloc (.cells #[.int .i64 x0, .int .i64 x1] 55)).heap.size := (X2.out.alloc (.cells #[.int .i64 x0, .int .i64 x1] 55)).nb.lt
        have HOA := Lib.hid (O2.out.below ((Below.refl _ _).alloc (Nat.le_refl _) (.cells #[.int .i64 x0, .int .i64 x1] 55)))
        have HR := Lib.hid HOA.out.curs
        have HX := Lib.hid (X2.out.alloc (.cells #[.int .i64 x0, .int .i64 x1] 55))
        have hnew := Lib.hid (at_alloc wq #[.int .i64 x0, .int .i64 x1] 55 (0, 0))
        clear X2 O2 B2
        go_upto_region 11 with (at_builtin; refine wpList_append_at _ rfl (.tmp 55) (.tmp 57) elem_cur rfl (gl + 2) (.slice s.a1 l.curs.length s.c1) l.curs.length (l.curs.flatMap curC) rfl HR.out (some ⟨wq.heap.size, 0, none⟩) 1 1 [.int .i64 x0, .int .i64 x1] rfl rfl hnew.out (by simp [Value.oneCell']) (by have := HLen.out; unfold maxLen; omega) (by have := HLen.out; omega) hbase ?_; intro v9 wz own9 bel9 g9 _; obtain ⟨p9, q9, rfl, _⟩ := at_of_owns own9; have ck : wz.cell? ⟨gl, 1, none⟩ = some (.slice s.a1 l.curs.length s.c1) := (HX.out.beside bel9).rx.bx.cell 1; have fk : wz.frozen? ⟨gl, 1, none⟩ = false := (HX.out.beside bel9).rx.bx.frozen 1)
        have HP := HOA.out.pushCur (x := (x0, x1)) own9 g9
        have XF := Lib.hid ((HX.out.beside bel9).set (s' := { s with a1 := p9, c1 := q9 }) (l' := addCur l (x0, x1)) 1 (.slice p9 (l.curs.length + 1) q9) (by simp [addCur, addUnd, addIns, addPos, addOrd, addLoc]))
        have OF := Lib.hid (HP.box (HX.out.beside bel9).rx.bx 1 (.slice p9 (l.curs.length + 1) q9))
        clear HP HX HR HOA hnew hbase k4 b0 b1 ck fk own9 bel9 g9 HU
        go_wp2_with fail
        go_roundw
        case rel => exact ⟨k + 1, addCur l (x0, x1), _, _, _, by omega, by go_num, XF.out, OF.out, E2, by have := HLen.out; unfold Hid; simp [addCur, this], HNil, rfl⟩
        case measure => simp [intOf]; omega
      · obtain rfl : m0 = k := by omega
        have E := Lib.hid (spush_zero ER.out (by omega))
        clear ER
        simp only [sL1] at E
        go_wp2_with fail
        go_loopw [11] (fun i wr => ∃ (k : Nat) (l : Led) (s : Lists) (us : List (Value × Acc)) (st : ST), k ≤ m1 ∧ i = .int .i64 (k : Int) ∧ RN w wr g gl s l st (nbox [(m0 : Int), m1, m2, m3, m4, m5, m6]) ∧ LedOwn (gl + 2) wr s l us ∧ Hid (q = stp (sPush sUnd addUnd (m1 - k) l st) (sL2 m0 m2 m3 m4 m5 m6)) ∧ Hid (l.unders.length = k) ∧ Hid (nil3 l) ∧ us = []) (fun i _ => m1 - (intOf i).toNat)
        case atStart => exact ⟨0, _, _, _, _, by omega, rfl, XI.out, HO.out, E, by have := HNil.out.1; unfold Hid; rw [this]; rfl, HNil.out.2, rfl⟩
        case round =>
          clear XI E HO HNil HLen kn
          obtain ⟨k, l, s, us, st, hk, rfl, XR, OR, ER, HLen, HNil, rfl⟩ := hrel
          have XI := Lib.hid XR
          have HO := Lib.hid OR
          have kn : wr.cell? ⟨gl + 1, 1, none⟩ = some (.int .i64 (m1 : Int)) := XI.out.nb.cell 1
          clear XR OR
          by_cases hlt : k < m1
          · have E0 := Lib.hid (spush_succ (m := m1 - (k + 1)) ER.out (by omega))
            clear ER
            simp only [sUnd, stp_stp, stp_pure] at E0
            have X0 := XI
            have O0 := HO
            clear XI HO
            go_upto_region 19 with (first | (go_at_call 34; refine (rtext_rd g _ _ X0.out.rd).mono ?_; rintro e w1 ⟨x0, st1, hs, rfl, gg, rd⟩; have X1 := Lib.hid (X0.out.call gg rd); have E1 := Lib.hid (E0.out.trans (stp_eq hs)); have O1 := Lib.hid (O0.out.other gg (by omega)); clear hs gg rd; have HBR := Box.new w1 57 #[.string ⟨#[]⟩, .int .i64 0, .int .i64 0, .int .i64 0]) | ((with_reducible refine wpList_store_box rfl 57 (.tmp 12) (.tmp 68) rfl #[.string ⟨x0.toArray⟩, .int .i64 0, .int .i64 0, .int .i64 0] HBR ?_ ?_ ?_ ?_ ?_ ?_); (· kernel_rfl); (· rfl); (· simp [Value.oneCell']); (· rfl); (· rfl)))
            have bq : Below w1.heap.size w1 ((w1.alloc (.cells #[.string ⟨#[]⟩, .int .i64 0, .int .i64 0, .int .i64 0] 57)).setRow w1.heap.size #[.string ⟨x0.toArray⟩, .int .i64 0, .int .i64 0, .int .i64 0]) := below_setRow ((Below.refl _ _).alloc (Nat.le_refl _) _) (Nat.le_refl _) _
            have hga : gl + 2 ≤ w1.heap.size := X1.out.nb.lt
            have XQ := Lib.hid (X1.out.below bq)
            have OQ := Lib.hid (O1.out.below bq)
            have HU := Lib.hid O1.out.lies
            have B1 := Lib.hid (HBR.row #[.string ⟨x0.toArray⟩, .int .i64 0, .int .i64 0, .int .i64 0])
            clear bq X1 O1 HBR X0 O0 E0 kn
            generalize (w1.alloc (.cells #[.string ⟨#[]⟩, .int .i64 0, .int .i64 0, .int .i64 0] 57)).setRow w1.heap.size #[.string ⟨x0.toArray⟩, .int .i64 0, .int .i64 0, .int .i64 0] = wq at *
            generalize w1.heap.size = ga at *
            have X1 := XQ
            have O1 := OQ
            clear XQ OQ
            go_upto_region 20 with (go_at_call 32; refine (rnumber_rd g _ _ X1.out.rd).mono ?_; rintro e w2 ⟨x1, st2, hs, rfl, gg, rd, d1⟩; have X2 := Lib.hid (X1.out.call gg rd); have E2 := Lib.hid (E1.out.trans (stp_eq hs)); have O2 := Lib.hid (O1.out.other gg (by omega)); have B2 := Lib.hid (box_grown B1.out gg (by omega)); have ck : w2.cell? ⟨ga, 1, none⟩ = some (.int .i64 0) := B2.out.cell 1; have fk : w2.frozen? ⟨ga, 1, none⟩ = false := B2.out.frozen 1; clear hs gg rd)
            change Code.wp _ _ _ _ (w2.setCell ⟨ga, 1, none⟩ (.int .i64 x1))
            have XQ := Lib.hid (X2.out.far hga 1 (.int .i64 x1))
            have OQ := Lib.hid (O2.out.under HU.out ((Below.refl _ _).setCell (p := ⟨ga, 1, none⟩) (Nat.le_refl _) (.int .i64 x1)))
            have BQ : Hid (Box (w2.setCell ⟨ga, 1, none⟩ (.int .i64 x1)) ga 57 #[.string ⟨x0.toArray⟩, .int .i64 x1, .int .i64 0, .int .i64 0]) := B2.out.set 1 (.int .i64 x1)
            clear ck fk X2 O2 B2 X1 O1 B1 E1
            generalize w2.setCell ⟨ga, 1, none⟩ (.int .i64 x1) = wq at *
            have X2 := XQ
            have O2 := OQ
            have B2 := BQ
            clear XQ OQ BQ
            go_upto_region 21 with (go_at_call 32; refine (rnumber_rd g _ _ X2.out.rd).mono ?_; rintro e w3 ⟨x2, st3, hs, rfl, gg, rd, d2⟩; have X3 := Lib.hid (X2.out.call gg rd); have E3 := Lib.hid (E2.out.trans (stp_eq hs)); have O3 := Lib.hid (O2.out.other gg (by omega)); have B3 := Lib.hid (box_grown B2.out gg (by omega)); have ck : w3.cell? ⟨ga, 2, none⟩ = some (.int .i64 0) := B3.out.cell 2; have fk : w3.frozen? ⟨ga, 2, none⟩ = false := B3.out.frozen 2; clear hs gg rd)
            change Code.wp _ _ _ _ (w3.setCell ⟨ga, 2, none⟩ (.int .i64 x2))
            have XQ := Lib.hid (X3.out.far hga 2 (.int .i64 x2))
            have OQ := Lib.hid (O3.out.under HU.out ((Below.refl _ _).setCell (p := ⟨ga, 2, none⟩) (Nat.le_refl _) (.int .i64 x2)))
            have BQ : Hid (Box (w3.setCell ⟨ga, 2, none⟩ (.int .i64 x2)) ga 57 #[.string ⟨x0.toArray⟩, .int .i64 x1, .int .i64 x2, .int .i64 0]) := B3.out.set 2 (.int .i64 x2)
            clear ck fk X3 O3 B3 X2 O2 B2 E2
            generalize w3.setCell ⟨ga, 2, none⟩ (.int .i64 x2) = wq at *
            have X3 := XQ
            have O3 := OQ
            have B3 := BQ
            clear XQ OQ BQ
            go_upto_region 22 with (go_at_call 32; refine (rnumber_rd g _ _ X3.out.rd).mono ?_; rintro e w4 ⟨x3, st4, hs, rfl, gg, rd, d3⟩; have X4 := Lib.hid (X3.out.call gg rd); have E4 := Lib.hid (E3.out.trans (stp_eq hs)); have O4 := Lib.hid (O3.out.other gg (by omega)); have B4 := Lib.hid (box_grown B3.out gg (by omega)); have ck : w4.cell? ⟨ga, 3, none⟩ = some (.int .i64 0) := B4.out.cell 3; have fk : w4.frozen? ⟨ga, 3, none⟩ = false := B4.out.frozen 3; clear hs gg rd)
            change Code.wp _ _ _ _ (w4.setCell ⟨ga, 3, none⟩ (.int .i64 x3))
            have XQ := Lib.hid (X4.out.far hga 3 (.int .i64 x3))
            have OQ := Lib.hid (O4.out.under HU.out ((Below.refl _ _).setCell (p := ⟨ga, 3, none⟩) (Nat.le_refl _) (.int .i64 x3)))
            have BQ : Hid (Box (w4.setCell ⟨ga, 3, none⟩ (.int .i64 x3)) ga 57 #[.string ⟨x0.toArray⟩, .int .i64 x1, .int .i64 x2, .int .i64 x3]) := B4.out.set 3 (.int .i64 x3)
            clear ck fk X4 O4 B4 X3 O3 B3 E3
            generalize w4.setCell ⟨ga, 3, none⟩ (.int .i64 x3) = wq at *
            have X4 := XQ
            have O4 := OQ
            have B4 := BQ
            clear XQ OQ BQ
            have k4 : wq.cell? ⟨gl, 2, none⟩ = some (.slice s.a2 l.unders.length s.c2) := X4.out.rx.bx.cell 2
            have b0 : wq.cell? ⟨ga, 0, none⟩ = some (.string ⟨x0.toArray⟩) := B4.out.cell 0
            have b1 : wq.cell? ⟨ga, 1, none⟩ = some (.int .i64 x1) := B4.out.cell 1
            have b2 : wq.cell? ⟨ga, 2, none⟩ = some (.int .i64 x2) := B4.out.cell 2
            have b3 : wq.cell? ⟨ga, 3, none⟩ = some (.int .i64 x3) := B4.out.cell 3
            have hbase : gl + 2 ≤ (wq.alloc (.cells #[.string ⟨x0.toArray⟩, .int .i64 x1, .int .i64 x2, .int .i64 x3] 57)).heap.size := (X4.out.alloc (.cells #[.string ⟨x0.toArray⟩, .int .i64 x1, .int .i64 x2, .int .i64 x3] 57)).nb.lt
            have HOA := Lib.hid (O4.out.below ((Below.refl _ _).alloc (Nat.le_refl _) (.cells #[.string ⟨x0.toArray⟩, .int .i64 x1, .int .i64 x2, .int .i64 x3] 57)))
            have HR := Lib.hid HOA.out.unders
            have HX := Lib.hid (X4.out.alloc (.cells #[.string ⟨x0.toArray⟩, .int .i64 x1, .int .i64 x2, .int .i64 x3] 57))
            have hnew := Lib.hid (at_alloc wq #[.string ⟨x0.toArray⟩, .int .i64 x1, .int .i64 x2, .int .i64 x3] 57 (0, 0))
            clear X4 O4 B4
            go_upto_region 17 with (at_builtin; refine wpList_append_at _ rfl (.tmp 79) (.tmp 81) elem_und rfl (gl + 2) (.slice s.a2 l.unders.length s.c2) l.unders.length (l.unders.flatMap undC) rfl HR.out (some ⟨wq.heap.size, 0, none⟩) 1 1 [.string ⟨x0.toArray⟩, .int .i64 x1, .int .i64 x2, .int .i64 x3] rfl rfl hnew.out (by simp [Value.oneCell']) (by have := HLen.out; unfold maxLen; omega) (by have := HLen.out; omega) hbase ?_; intro v9 wz own9 bel9 g9 _; obtain ⟨p9, q9, rfl, _⟩ := at_of_owns own9; have ck : wz.cell? ⟨gl, 2, none⟩ = some (.slice s.a2 l.unders.length s.c2) := (HX.out.beside bel9).rx.bx.cell 2; have fk : wz.frozen? ⟨gl, 2, none⟩ = false := (HX.out.beside bel9).rx.bx.frozen 2)
            have HP := HOA.out.pushUnd (x := ⟨x0, x1, x2, x3⟩) own9 g9
            have XF := Lib.hid ((HX.out.beside bel9).set (s' := { s with a2 := p9, c2 := q9 }) (l' := addUnd l ⟨x0, x1, x2, x3⟩) 2 (.slice p9 (l.unders.length + 1) q9) (by simp [addCur, addUnd, addIns, addPos, addOrd, addLoc]))
            have OF := Lib.hid (HP.box (HX.out.beside bel9).rx.bx 2 (.slice p9 (l.unders.length + 1) q9))
            clear HP HX HR HOA hnew hbase k4 b0 b1 b2 b3 ck fk own9 bel9 g9 HU
            go_wp2_with fail
            go_roundw
            case rel => exact ⟨k + 1, addUnd l ⟨x0, x1, x2, x3⟩, _, _, _, by omega, by go_num, XF.out, OF.out, E4, by have := HLen.out; unfold Hid; simp [addUnd, this], HNil, rfl⟩
            case measure => simp [intOf]; omega
          · obtain rfl : m1 = k := by omega
            have E := Lib.hid (spush_zero ER.out (by omega))
            clear ER
            simp only [sL2] at E
            go_wp2_with fail
            go_loopw [13] (fun i wr => ∃ (k : Nat) (l : Led) (s : Lists) (us : List (Value × Acc)) (st : ST), k ≤ m2 ∧ i = .int .i64 (k : Int) ∧ RN w wr g gl s l st (nbox [(m0 : Int), m1, m2, m3, m4, m5, m6]) ∧ LedOwn (gl + 2) wr s l us ∧ Hid (q = stp (sPush sIns addIns (m2 - k) l st) (sL3 m0 m3 m4 m5 m6)) ∧ Hid (l.instrs.length = k ∧ l.avail.length = k) ∧ Hid (nil4 l) ∧ us = []) (fun i _ => m2 - (intOf i).toNat)
            case atStart => exact ⟨0, _, _, _, _, by omega, rfl, XI.out, HO.out, E, by have h1 := HNil.out.1; have h2 := HNil.out.2.1; unfold Hid; rw [h1, h2]; exact ⟨rfl, rfl⟩, HNil.out.2.2, rfl⟩
            case round =>
              clear XI E HO HNil HLen kn
              obtain ⟨k, l, s, us, st, hk, rfl, XR, OR, ER, HLen, HNil, rfl⟩ := hrel
              have XI := Lib.hid XR
              have HO := Lib.hid OR
              have kn : wr.cell? ⟨gl + 1, 2, none⟩ = some (.int .i64 (m2 : Int)) := XI.out.nb.cell 2
              clear XR OR
              by_cases hlt : k < m2
              · have E0 := Lib.hid (spush_succ (m := m2 - (k + 1)) ER.out (by omega))
                clear ER
                simp only [sIns, stp_stp, stp_pure] at E0
                have X0 := XI
                have O0 := HO
                clear XI HO
                go_upto_region 27 with (first | (go_at_call 32; refine (rnumber_rd g _ _ X0.out.rd).mono ?_; rintro e w1 ⟨x0, st1, hs, rfl, gg, rd, d0⟩; have X1 := Lib.hid (X0.out.call gg rd); have E1 := Lib.hid (E0.out.trans (stp_eq hs)); have O1 := Lib.hid (O0.out.other gg (by omega)); clear hs gg rd; have HBR := Box.new w1 60 #[.int .i64 0, .int .i64 0, .int .i64 0, .int .i64 0, .int .i64 0, .bool false, .int .i64 0]) | ((with_reducible refine wpList_store_box rfl 60 (.tmp 14) (.tmp 92) rfl #[.int .i64 x0, .int .i64 0, .int .i64 0, .int .i64 0, .int .i64 0, .bool false, .int .i64 0] HBR ?_ ?_ ?_ ?_ ?_ ?_); (· kernel_rfl); (· rfl); (· simp [Value.oneCell']); (· rfl); (· rfl)))
                have bq : Below w1.heap.size w1 ((w1.alloc (.cells #[.int .i64 0, .int .i64 0, .int .i64 0, .int .i64 0, .int .i64 0, .bool false, .int .i64 0] 60)).setRow w1.heap.size #[.int .i64 x0, .int .i64 0, .int .i64 0, .int .i64 0, .int .i64 0, .bool false, .int .i64 0]) := below_setRow ((Below.refl _ _).alloc (Nat.le_refl _) _) (Nat.le_refl _) _
                have hga : gl + 2 ≤ w1.heap.size := X1.out.nb.lt
                have XQ := Lib.hid (X1.out.below bq)
                have OQ := Lib.hid (O1.out.below bq)
                have HU := Lib.hid O1.out.lies
                have B1 := Lib.hid (HBR.row #[.int .i64 x0, .int .i64 0, .int .i64 0, .int .i64 0, .int .i64 0, .bool false, .int .i64 0])
                clear bq X1 O1 HBR X0 O0 E0 kn
                generalize (w1.alloc (.cells #[.int .i64 0, .int .i64 0, .int .i64 0, .int .i64 0, .int .i64 0, .bool false, .int .i64 0] 60)).setRow w1.heap.size #[.int .i64 x0, .int .i64 0, .int .i64 0, .int .i64 0, .int .i64 0, .bool false, .int .i64 0] = wq at *
                generalize w1.heap.size = ga at *
                have X1 := XQ
                have O1 := OQ
                clear XQ OQ
                go_upto_region 28 with (go_at_call 32; refine (rnumber_rd g _ _ X1.out.rd).mono ?_; rintro e w2 ⟨x1, st2, hs, rfl, gg, rd, d1⟩; have X2 := Lib.hid (X1.out.call gg rd); have E2 := Lib.hid (E1.out.trans (stp_eq hs)); have O2 := Lib.hid (O1.out.other gg (by omega)); have B2 := Lib.hid (box_grown B1.out gg (by omega)); have ck : w2.cell? ⟨ga, 1, none⟩ = some (.int .i64 0) := B2.out.cell 1; have fk : w2.frozen? ⟨ga, 1, none⟩ = false := B2.out.frozen 1; clear hs gg rd)
                change Code.wp _ _ _ _ (w2.setCell ⟨ga, 1, none⟩ (.int .i64 x1))
                have XQ := Lib.hid (X2.out.far hga 1 (.int .i64 x1))
                have OQ := Lib.hid (O2.out.under HU.out ((Below.refl _ _).setCell (p := ⟨ga, 1, none⟩) (Nat.le_refl _) (.int .i64 x1)))
                have BQ : Hid (Box (w2.setCell ⟨ga, 1, none⟩ (.int .i64 x1)) ga 60 #[.int .i64 x0, .int .i64 x1, .int .i64 0, .int .i64 0, .int .i64 0, .bool false, .int .i64 0]) := B2.out.set 1 (.int .i64 x1)
                clear ck fk X2 O2 B2 X1 O1 B1 E1
                generalize w2.setCell ⟨ga, 1, none⟩ (.int .i64 x1) = wq at *
                have X2 := XQ
                have O2 := OQ
                have B2 := BQ
                clear XQ OQ BQ
                go_upto_region 29 with (go_at_call 32; refine (rnumber_rd g _ _ X2.out.rd).mono ?_; rintro e w3 ⟨x2, st3, hs, rfl, gg, rd, d2⟩; have X3 := Lib.hid (X2.out.call gg rd); have E3 := Lib.hid (E2.out.trans (stp_eq hs)); have O3 := Lib.hid (O2.out.other gg (by omega)); have B3 := Lib.hid (box_grown B2.out gg (by omega)); have ck : w3.cell? ⟨ga, 2, none⟩ = some (.int .i64 0) := B3.out.cell 2; have fk : w3.frozen? ⟨ga, 2, none⟩ = false := B3.out.frozen 2; clear hs gg rd)
                change Code.wp _ _ _ _ (w3.setCell ⟨ga, 2, none⟩ (.int .i64 x2))
                have XQ := Lib.hid (X3.out.far hga 2 (.int .i64 x2))
                have OQ := Lib.hid (O3.out.under HU.out ((Below.refl _ _).setCell (p := ⟨ga, 2, none⟩) (Nat.le_refl _) (.int .i64 x2)))
                have BQ : Hid (Box (w3.setCell ⟨ga, 2, none⟩ (.int .i64 x2)) ga 60 #[.int .i64 x0, .int .i64 x1, .int .i64 x2, .int .i64 0, .int .i64 0, .bool false, .int .i64 0]) := B3.out.set 2 (.int .i64 x2)
                clear ck fk X3 O3 B3 X2 O2 B2 E2
                generalize w3.setCell ⟨ga, 2, none⟩ (.int .i64 x2) = wq at *
                have X3 := XQ
                have O3 := OQ
                have B3 := BQ
                clear XQ OQ BQ
                go_upto_region 30 with (go_at_call 32; refine (rnumber_rd g _ _ X3.out.rd).mono ?_; rintro e w4 ⟨x3, st4, hs, rfl, gg, rd, d3⟩; have X4 := Lib.hid (X3.out.call gg rd); have E4 := Lib.hid (E3.out.trans (stp_eq hs)); have O4 := Lib.hid (O3.out.other gg (by omega)); have B4 := Lib.hid (box_grown B3.out gg (by omega)); have ck : w4.cell? ⟨ga, 3, none⟩ = some (.int .i64 0) := B4.out.cell 3; have fk : w4.frozen? ⟨ga, 3, none⟩ = false := B4.out.frozen 3; clear hs gg rd)
                change Code.wp _ _ _ _ (w4.setCell ⟨ga, 3, none⟩ (.int .i64 x3))
                have XQ := Lib.hid (X4.out.far hga 3 (.int .i64 x3))
                have OQ := Lib.hid (O4.out.under HU.out ((Below.refl _ _).setCell (p := ⟨ga, 3, none⟩) (Nat.le_refl _) (.int .i64 x3)))
                have BQ : Hid (Box (w4.setCell ⟨ga, 3, none⟩ (.int .i64 x3)) ga 60 #[.int .i64 x0, .int .i64 x1, .int .i64 x2, .int .i64 x3, .int .i64 0, .bool false, .int .i64 0]) := B4.out.set 3 (.int .i64 x3)
                clear ck fk X4 O4 B4 X3 O3 B3 E3
                generalize w4.setCell ⟨ga, 3, none⟩ (.int .i64 x3) = wq at *
                have X4 := XQ
                have O4 := OQ
                have B4 := BQ
                clear XQ OQ BQ
                go_upto_region 31 with (go_at_call 32; refine (rnumber_rd g _ _ X4.out.rd).mono ?_; rintro e w5 ⟨x4, st5, hs, rfl, gg, rd, d4⟩; have X5 := Lib.hid (X4.out.call gg rd); have E5 := Lib.hid (E4.out.trans (stp_eq hs)); have O5 := Lib.hid (O4.out.other gg (by omega)); have B5 := Lib.hid (box_grown B4.out gg (by omega)); have ck : w5.cell? ⟨ga, 4, none⟩ = some (.int .i64 0) := B5.out.cell 4; have fk : w5.frozen? ⟨ga, 4, none⟩ = false := B5.out.frozen 4; clear hs gg rd)
                change Code.wp _ _ _ _ (w5.setCell ⟨ga, 4, none⟩ (.int .i64 x4))
                have XQ := Lib.hid (X5.out.far hga 4 (.int .i64 x4))
                have OQ := Lib.hid (O5.out.under HU.out ((Below.refl _ _).setCell (p := ⟨ga, 4, none⟩) (Nat.le_refl _) (.int .i64 x4)))
                have BQ : Hid (Box (w5.setCell ⟨ga, 4, none⟩ (.int .i64 x4)) ga 60 #[.int .i64 x0, .int .i64 x1, .int .i64 x2, .int .i64 x3, .int .i64 x4, .bool false, .int .i64 0]) := B5.out.set 4 (.int .i64 x4)
                clear ck fk X5 O5 B5 X4 O4 B4 E4
                generalize w5.setCell ⟨ga, 4, none⟩ (.int .i64 x4) = wq at *
                have X5 := XQ
                have O5 := OQ
                have B5 := BQ
                clear XQ OQ BQ
                go_upto_region 32 with (go_at_call 33; refine (rcount_rd 1 (by decide) g _ _ X5.out.rd).mono ?_; rintro e w6 ⟨n5, st6, hs, rfl, gg, rd, y1, y2⟩; have X6 := Lib.hid (X5.out.call gg rd); have E6 := Lib.hid (E5.out.trans (stp_eq (sB_of hs))); have O6 := Lib.hid (O5.out.other gg (by omega)); have B6 := Lib.hid (box_grown B5.out gg (by omega)); have ck : w6.cell? ⟨ga, 5, none⟩ = some (.bool false) := B6.out.cell 5; have fk : w6.frozen? ⟨ga, 5, none⟩ = false := B6.out.frozen 5; clear hs gg rd)
                change Code.wp _ _ _ _ (w6.setCell ⟨ga, 5, none⟩ (.bool (decide (n5 = 1))))
                have XQ := Lib.hid (X6.out.far hga 5 (.bool (decide (n5 = 1))))
                have OQ := Lib.hid (O6.out.under HU.out ((Below.refl _ _).setCell (p := ⟨ga, 5, none⟩) (Nat.le_refl _) (.bool (decide (n5 = 1)))))
                have BQ : Hid (Box (w6.setCell ⟨ga, 5, none⟩ (.bool (decide (n5 = 1)))) ga 60 #[.int .i64 x0, .int .i64 x1, .int .i64 x2, .int .i64 x3, .int .i64 x4, .bool (decide (n5 = 1)), .int .i64 0]) := B6.out.set 5 (.bool (decide (n5 = 1)))
                clear ck fk X6 O6 B6 X5 O5 B5 E5
                generalize w6.setCell ⟨ga, 5, none⟩ (.bool (decide (n5 = 1))) = wq at *
                have X6 := XQ
                have O6 := OQ
                have B6 := BQ
                clear XQ OQ BQ
                go_upto_region 33 with (go_at_call 32; refine (rnumber_rd g _ _ X6.out.rd).mono ?_; rintro e w7 ⟨x6, st7, hs, rfl, gg, rd, d6⟩; have X7 := Lib.hid (X6.out.call gg rd); have E7 := Lib.hid (E6.out.trans (stp_eq hs)); have O7 := Lib.hid (O6.out.other gg (by omega)); have B7 := Lib.hid (box_grown B6.out gg (by omega)); have ck : w7.cell? ⟨ga, 6, none⟩ = some (.int .i64 0) := B7.out.cell 6; have fk : w7.frozen? ⟨ga, 6, none⟩ = false := B7.out.frozen 6; clear hs gg rd)
                change Code.wp _ _ _ _ (w7.setCell ⟨ga, 6, none⟩ (.int .i64 x6))
                have XQ := Lib.hid (X7.out.far hga 6 (.int .i64 x6))
                have OQ := Lib.hid (O7.out.under HU.out ((Below.refl _ _).setCell (p := ⟨ga, 6, none⟩) (Nat.le_refl _) (.int .i64 x6)))
                have BQ : Hid (Box (w7.setCell ⟨ga, 6, none⟩ (.int .i64 x6)) ga 60 #[.int .i64 x0, .int .i64 x1, .int .i64 x2, .int .i64 x3, .int .i64 x4, .bool (decide (n5 = 1)), .int .i64 x6]) := B7.out.set 6 (.int .i64 x6)
                clear ck fk X7 O7 B7 X6 O6 B6 E6
                generalize w7.setCell ⟨ga, 6, none⟩ (.int .i64 x6) = wq at *
                have X7 := XQ
                have O7 := OQ
                have B7 := BQ
                clear XQ OQ BQ
                have k4 : wq.cell? ⟨gl, 3, none⟩ = some (.slice s.a3 l.instrs.length s.c3) := X7.out.rx.bx.cell 3
                have b0 : wq.cell? ⟨ga, 0, none⟩ = some (.int .i64 x0) := B7.out.cell 0
                have b1 : wq.cell? ⟨ga, 1, none⟩ = some (.int .i64 x1) := B7.out.cell 1
                have b2 : wq.cell? ⟨ga, 2, none⟩ = some (.int .i64 x2) := B7.out.cell 2
                have b3 : wq.cell? ⟨ga, 3, none⟩ = some (.int .i64 x3) := B7.out.cell 3
                have b4 : wq.cell? ⟨ga, 4, none⟩ = some (.int .i64 x4) := B7.out.cell 4
                have b5 : wq.cell? ⟨ga, 5, none⟩ = some (.bool (decide (n5 = 1))) := B7.out.cell 5
                have b6 : wq.cell? ⟨ga, 6, none⟩ = some (.int .i64 x6) := B7.out.cell 6
                have hbase : gl + 2 ≤ (wq.alloc (.cells #[.int .i64 x0, .int .i64 x1, .int .i64 x2, .int .i64 x3, .int .i64 x4, .bool (decide (n5 = 1)), .int .i64 x6] 60)).heap.size := (X7.out.alloc (.cells #[.int .i64 x0, .int .i64 x1, .int .i64 x2, .int .i64 x3, .int .i64 x4, .bool (decide (n5 = 1)), .int .i64 x6] 60)).nb.lt
                have HOA := Lib.hid (O7.out.below ((Below.refl _ _).alloc (Nat.le_refl _) (.cells #[.int .i64 x0, .int .i64 x1, .int .i64 x2, .int .i64 x3, .int .i64 x4, .bool (decide (n5 = 1)), .int .i64 x6] 60)))
                have HR := Lib.hid HOA.out.instrs
                have HX := Lib.hid (X7.out.alloc (.cells #[.int .i64 x0, .int .i64 x1, .int .i64 x2, .int .i64 x3, .int .i64 x4, .bool (decide (n5 = 1)), .int .i64 x6] 60))
                have hnew := Lib.hid (at_alloc wq #[.int .i64 x0, .int .i64 x1, .int .i64 x2, .int .i64 x3, .int .i64 x4, .bool (decide (n5 = 1)), .int .i64 x6] 60 (0, 0))
                clear X7 O7 B7
                go_upto_region 34 with (at_builtin; refine wpList_append_at _ rfl (.tmp 113) (.tmp 115) elem_ins rfl (gl + 2) (.slice s.a3 l.instrs.length s.c3) l.instrs.length (l.instrs.flatMap insC) rfl HR.out (some ⟨wq.heap.size, 0, none⟩) 1 1 [.int .i64 x0, .int .i64 x1, .int .i64 x2, .int .i64 x3, .int .i64 x4, .bool (decide (n5 = 1)), .int .i64 x6] rfl rfl hnew.out (by simp [Value.oneCell']) (by have := HLen.out; unfold maxLen; omega) (by have := HLen.out; omega) hbase ?_; intro v9 wz own9 bel9 g9 _; obtain ⟨p9, q9, rfl, _⟩ := at_of_owns own9; have ck : wz.cell? ⟨gl, 3, none⟩ = some (.slice s.a3 l.instrs.length s.c3) := (HX.out.beside bel9).rx.bx.cell 3; have fk : wz.frozen? ⟨gl, 3, none⟩ = false := (HX.out.beside bel9).rx.bx.frozen 3)
                have HP := HOA.out.pushInstr (x := ⟨x0, x1, x2, x3, x4, (decide (n5 = 1)), x6⟩) own9 g9
                have XF := Lib.hid ((HX.out.beside bel9).set (s' := { s with a3 := p9, c3 := q9 }) (l' := ({ l with instrs := l.instrs ++ [(⟨x0, x1, x2, x3, x4, (decide (n5 = 1)), x6⟩ : Ins)] } : Led)) 3 (.slice p9 (l.instrs.length + 1) q9) (by simp [addCur, addUnd, addIns, addPos, addOrd, addLoc]))
                have OF := Lib.hid (HP.box (HX.out.beside bel9).rx.bx 3 (.slice p9 (l.instrs.length + 1) q9))
                clear HP HX HR HOA hnew hbase k4 b0 b1 b2 b3 b4 b5 b6 ck fk own9 bel9 g9 HU
                obtain ⟨p3, rfl⟩ : ∃ x, x = p9 := ⟨p9, rfl⟩
                obtain ⟨q3, rfl⟩ : ∃ x, x = q9 := ⟨q9, rfl⟩
                generalize wz.setCell ⟨gl, 3, none⟩ (.slice p3 (l.instrs.length + 1) q3) = wy at *
                have HO := Lib.hid (OF.out.below (bel_of ⟨1, rfl⟩ : Below wy.heap.size wy wy.drew))
                have RDA := Lib.hid XF.out.drew.rd
                clear OF
                refine stage_region 6 (fun W => W.cell? ⟨gl, 7, none⟩ = some (.slice s.a7 l.avail.length s.c7) ∧ RX w W g gl ({ s with a3 := p3, c3 := q3 } : Lists) ({ l with instrs := l.instrs ++ [(⟨x0, x1, x2, x3, x4, (decide (n5 = 1)), x6⟩ : Ins)] } : Led) ∧ Box W (gl + 1) 79 (nbox [(m0 : Int), m1, m2, m3, m4, m5, m6])) (by kernel_rfl) ?_
                have HS := And.intro XF.out.rx.drew (box_drew XF.out.nb)
                refine' stage_take (i := 0) _ rfl (by kernel_rfl) (by kernel_rfl) (by kernel_rfl) (by kernel_rfl) (fun _ _ _ h => h) ⟨HS.1.bx.cell 7, HS⟩ _ (fun W hW => _) _
                rotate_left
                focus (go_simp; done)
                focus (obtain ⟨k1, X9⟩ := hW; go_simp; first | done | (with_reducible rfl))
                simp only [Act.put, List.setIfInBounds_toArray, List.set_cons_zero, List.set_cons_succ]
                refine' stage_take (i := 1) _ rfl (by kernel_rfl) (by kernel_rfl) (by kernel_rfl) (by kernel_rfl) (fun _ _ _ h => h) ⟨HS.1.bx.cell 7, HS⟩ _ (fun W hW => _) _
                rotate_left
                focus (go_simp; done)
                focus (obtain ⟨k1, X9⟩ := hW; go_simp; first | done | (with_reducible rfl))
                simp only [Act.put, List.setIfInBounds_toArray, List.set_cons_zero, List.set_cons_succ]
                refine' stage_take (i := 2) _ rfl (by kernel_rfl) (by kernel_rfl) (by kernel_rfl) (by kernel_rfl) (fun _ _ _ h => h) ⟨HS.1.bx.cell 7, HS⟩ _ (fun W hW => _) _
                rotate_left
                focus (go_simp; done)
                focus (obtain ⟨k1, X9⟩ := hW; go_simp; first | done | (with_reducible rfl))
                simp only [Act.put, List.setIfInBounds_toArray, List.set_cons_zero, List.set_cons_succ]
                refine stage_only (i := 3) rfl (by kernel_rfl) ?_ (fun K hK => ?_)
                focus (go_simp; done)
                go_simp
                go_at_call 32
                refine (rnumber_rd g _ _ RDA.out).mono ?_
                rintro e w9 ⟨x7, st8, hs, rfl, gg, rd9, d7⟩
                go_simp
                have E8 := Lib.hid (E7.out.trans (stp_eq hs))
                have RD1 := Lib.hid rd9
                replace HS := And.intro (HS.1.call gg) (box_grown HS.2 gg (by omega))
                replace HO := Lib.hid (HO.out.other gg (by omega))
                clear hs gg rd9 RDA E7
                replace HS := HS
                refine hK.out _ _ (fun _ => ⟨HS.1.bx.cell 7, HS⟩) ?_
                clear hK K
                try simp only [Act.put, List.setIfInBounds_toArray, List.set_cons_zero, List.set_cons_succ]
                refine stage_only (i := 4) rfl (by kernel_rfl) ?_ (fun K hK => ?_)
                focus (go_simp; done)
                go_simp
                replace HO := Lib.hid (HO.out.below ((Below.refl _ _).alloc (Nat.le_refl _) (.cells #[.int .i64 x7] 3)))
                replace HS := And.intro (HS.1.alloc (.cells #[.int .i64 x7] 3)) (HS.2.alloc (.cells #[.int .i64 x7] 3))
                refine hK.out _ _ (fun _ => ⟨HS.1.bx.cell 7, HS⟩) ?_
                clear hK K
                try simp only [Act.put, List.setIfInBounds_toArray, List.set_cons_zero, List.set_cons_succ]
                refine stage_only (i := 5) rfl (by kernel_rfl) ?_ (fun K hK => ?_)
                focus (go_simp; done)
                have hbase : gl + 2 ≤ (w9.alloc (.cells #[.int .i64 x7] 3)).heap.size := HS.2.lt
                have hnew : At (w9.alloc (.cells #[.int .i64 x7] 3)) (some ⟨w9.heap.size, 0, none⟩) [.int .i64 x7] := at_alloc w9 #[.int .i64 x7] 3 (0, 0)
                have HR := HO.out.avail
                refine wp_append_at (.tmp 119) (.tmp 122) elem_int rfl (gl + 2) (.slice s.a7 l.avail.length s.c7) l.avail.length (i64s l.avail) rfl HR (some ⟨w9.heap.size, 0, none⟩) 1 1 [.int .i64 x7] rfl rfl hnew (by simp [Value.oneCell']) (by have := HLen.out; unfold maxLen; omega) (by have := HLen.out; omega) hbase ?_
                intro v9 wz own9 bel9 g9 _
                obtain ⟨p9, q9, rfl, _⟩ := at_of_owns own9
                replace RD1 := Lib.hid (rds_below (rds_below RD1.out ((Below.refl _ _).alloc (Nat.le_refl _) (.cells #[.int .i64 x7] 3)) (by have := rds_lt RD1.out; omega)) bel9 (by omega))
                replace HO := Lib.hid (HO.out.pushAvail (x := x7) own9 g9)
                clear HR hbase hnew own9 g9
                replace HS := And.intro (HS.1.beside (bel9.mono (by omega))) (HS.2.below bel9 (by omega))
                refine hK.out _ _ (fun _ => ⟨HS.1.bx.cell 7, HS⟩) ?_
                clear hK K
                try simp only [Act.put, List.setIfInBounds_toArray, List.set_cons_zero, List.set_cons_succ]
                refine stage_only (i := 6) rfl (by kernel_rfl) ?_ (fun K hK => ?_)
                focus (go_simp; done)
                go_simp
                refine hK.out _ _ (fun h => absurd h (by decide)) ?_
                clear hK K
                try simp only [Act.put, List.setIfInBounds_toArray, List.set_cons_zero, List.set_cons_succ]
                refine stage_only (i := 7) rfl (by kernel_rfl) ?_ (fun K hK => ?_)
                focus (go_simp; done)
                have ck : wz.cell? ⟨gl, 7, none⟩ = some (.slice s.a7 l.avail.length s.c7) := HS.1.bx.cell 7
                have fk : wz.frozen? ⟨gl, 7, none⟩ = false := HS.1.bx.frozen 7
                go_simp
                clear ck fk
                refine hK.out _ _ (fun h => absurd h (by decide)) ?_
                clear hK K
                try simp only [Act.put, List.setIfInBounds_toArray, List.set_cons_zero, List.set_cons_succ]
                refine stage_end (by kernel_rfl) ?_
                have XF9 : Hid (RN w wz g gl ({ s with a3 := p3, c3 := q3 } : Lists) ({ l with instrs := l.instrs ++ [(⟨x0, x1, x2, x3, x4, (decide (n5 = 1)), x6⟩ : Ins)] } : Led) st8 (nbox [(m0 : Int), m1, m2, m3, m4, m5, m6])) := ⟨HS.1, HS.2, RD1.out⟩
                have XG := Lib.hid (XF9.out.set (s' := { ({ s with a3 := p3, c3 := q3 } : Lists) with a7 := p9, c7 := q9 }) (l' := addIns l (⟨x0, x1, x2, x3, x4, (decide (n5 = 1)), x6⟩, x7)) 7 (.slice p9 (l.avail.length + 1) q9) (by simp [addIns]))
                have OG := Lib.hid (HO.out.box HS.1.bx 7 (.slice p9 (l.avail.length + 1) q9))
                clear HS HO RD1 XF9 XF
                go_wp2_with fail
                go_roundw
                case rel => exact ⟨k + 1, addIns l (⟨x0, x1, x2, x3, x4, (decide (n5 = 1)), x6⟩, x7), _, _, _, by omega, by go_num, XG.out, OG.out, E8, by have := HLen.out; unfold Hid; simp [addIns, this], HNil, rfl⟩
                case measure => simp [intOf]; omega
              · obtain rfl : m2 = k := by omega
                have E := Lib.hid (spush_zero ER.out (by omega))
                clear ER
                simp only [sL3] at E
                go_wp2_with fail
                go_loopw [15] (fun i wr => ∃ (k : Nat) (l : Led) (s : Lists) (us : List (Value × Acc)) (st : ST), k ≤ m3 ∧ i = .int .i64 (k : Int) ∧ RN w wr g gl s l st (nbox [(m0 : Int), m1, m2, m3, m4, m5, m6]) ∧ LedOwn (gl + 2) wr s l us ∧ Hid (q = stp (sPush (sAcct m0) addAcct (m3 - k) l st) (sL4 m4 m5 m6)) ∧ Hid (l.accts.length = k) ∧ Hid (nil5 l)) (fun i _ => m3 - (intOf i).toNat)
                case atStart => exact ⟨0, _, _, _, _, by omega, rfl, XI.out, HO.out, E, by have := HNil.out.1; unfold Hid; rw [this]; rfl, HNil.out.2⟩
                case round =>
                  clear XI E HO HNil HLen kn
                  obtain ⟨k, l, s, us, st, hk, rfl, XR, OR, ER, HLen, HNil⟩ := hrel
                  have XI := Lib.hid XR
                  have HO := Lib.hid OR
                  have kn : wr.cell? ⟨gl + 1, 3, none⟩ = some (.int .i64 (m3 : Int)) := XI.out.nb.cell 3
                  clear XR OR
                  by_cases hlt : k < m3
                  · have E0 := Lib.hid (spush_succ (m := m3 - (k + 1)) ER.out (by omega))
                    clear ER
                    simp only [sAcct, stp_stp, stp_pure] at E0
                    have X0 := XI
                    have O0 := HO
                    clear XI HO
                    go_upto_region 39 with (first | (go_at_call 32; refine (rnumber_rd g _ _ X0.out.rd).mono ?_; rintro e w1 ⟨x0, st1, hs, rfl, gg, rd, d0⟩; have X1 := Lib.hid (X0.out.call gg rd); have E1 := Lib.hid (E0.out.trans (stp_eq hs)); have O1 := Lib.hid (O0.out.other gg (by omega)); clear hs gg rd; have HBR := Box.new w1 46 #[.int .i64 0, .slice none 0 0, .bool false, .int .i64 0]) | ((with_reducible refine wpList_store_box rfl 46 (.tmp 16) (.tmp 133) rfl #[.int .i64 x0, .slice none 0 0, .bool false, .int .i64 0] HBR ?_ ?_ ?_ ?_ ?_ ?_); (· kernel_rfl); (· rfl); (· simp [Value.oneCell']); (· rfl); (· rfl)))
                    have bq : Below w1.heap.size w1 ((w1.alloc (.cells #[.int .i64 0, .slice none 0 0, .bool false, .int .i64 0] 46)).setRow w1.heap.size #[.int .i64 x0, .slice none 0 0, .bool false, .int .i64 0]) := below_setRow ((Below.refl _ _).alloc (Nat.le_refl _) _) (Nat.le_refl _) _
                    have hga : gl + 2 ≤ w1.heap.size := X1.out.nb.lt
                    have XQ := Lib.hid (X1.out.below bq)
                    have OQ := Lib.hid (O1.out.below bq)
                    have HU := Lib.hid O1.out.lies
                    have B1 := Lib.hid (HBR.row #[.int .i64 x0, .slice none 0 0, .bool false, .int .i64 0])
                    clear bq X1 O1 HBR X0 O0 E0 kn
                    generalize (w1.alloc (.cells #[.int .i64 0, .slice none 0 0, .bool false, .int .i64 0] 46)).setRow w1.heap.size #[.int .i64 x0, .slice none 0 0, .bool false, .int .i64 0] = wq at *
                    generalize w1.heap.size = ga at *
                    have X1 := XQ
                    have O1 := OQ
                    clear XQ OQ
                    go_upto_region 40 with (go_at_call 33; refine (rcount_rd 1 (by decide) g _ _ X1.out.rd).mono ?_; rintro e w2 ⟨n1, st2, hs, rfl, gg, rd, y1, y2⟩; have X2 := Lib.hid (X1.out.call gg rd); have E2 := Lib.hid (E1.out.trans (stp_eq (sB_of hs))); have O2 := Lib.hid (O1.out.other gg (by omega)); have B2 := Lib.hid (box_grown B1.out gg (by omega)); have ck : w2.cell? ⟨ga, 2, none⟩ = some (.bool false) := B2.out.cell 2; have fk : w2.frozen? ⟨ga, 2, none⟩ = false := B2.out.frozen 2; clear hs gg rd)
                    change Code.wp _ _ _ _ (w2.setCell ⟨ga, 2, none⟩ (.bool (decide (n1 = 1))))
                    have XQ := Lib.hid (X2.out.far hga 2 (.bool (decide (n1 = 1))))
                    have OQ := Lib.hid (O2.out.under HU.out ((Below.refl _ _).setCell (p := ⟨ga, 2, none⟩) (Nat.le_refl _) (.bool (decide (n1 = 1)))))
                    have BQ : Hid (Box (w2.setCell ⟨ga, 2, none⟩ (.bool (decide (n1 = 1)))) ga 46 #[.int .i64 x0, .slice none 0 0, .bool (decide (n1 = 1)), .int .i64 0]) := B2.out.set 2 (.bool (decide (n1 = 1)))
                    clear ck fk X2 O2 B2 X1 O1 B1 E1
                    generalize w2.setCell ⟨ga, 2, none⟩ (.bool (decide (n1 = 1))) = wq at *
                    have X2 := XQ
                    have O2 := OQ
                    have B2 := BQ
                    clear XQ OQ BQ
                    go_upto_region 41 with (go_at_call 32; refine (rnumber_rd g _ _ X2.out.rd).mono ?_; rintro e w3 ⟨x2, st3, hs, rfl, gg, rd, d2⟩; have X3 := Lib.hid (X2.out.call gg rd); have E3 := Lib.hid (E2.out.trans (stp_eq hs)); have O3 := Lib.hid (O2.out.other gg (by omega)); have B3 := Lib.hid (box_grown B2.out gg (by omega)); have ck : w3.cell? ⟨ga, 3, none⟩ = some (.int .i64 0) := B3.out.cell 3; have fk : w3.frozen? ⟨ga, 3, none⟩ = false := B3.out.frozen 3; clear hs gg rd)
                    change Code.wp _ _ _ _ (w3.setCell ⟨ga, 3, none⟩ (.int .i64 x2))
                    have XQ := Lib.hid (X3.out.far hga 3 (.int .i64 x2))
                    have OQ := Lib.hid (O3.out.under HU.out ((Below.refl _ _).setCell (p := ⟨ga, 3, none⟩) (Nat.le_refl _) (.int .i64 x2)))
                    have BQ : Hid (Box (w3.setCell ⟨ga, 3, none⟩ (.int .i64 x2)) ga 46 #[.int .i64 x0, .slice none 0 0, .bool (decide (n1 = 1)), .int .i64 x2]) := B3.out.set 3 (.int .i64 x2)
                    clear ck fk X3 O3 B3 X2 O2 B2 E2
                    generalize w3.setCell ⟨ga, 3, none⟩ (.int .i64 x2) = wq at *
                    have X3 := XQ
                    have O3 := OQ
                    have B3 := BQ
                    clear XQ OQ BQ
                    go_wp2_with fail
                    go_loopw [17] (fun i wr => ∃ (j : Nat) (cs : List Int) (ca : Option Addr) (cc : Nat) (st : ST), j ≤ m0 ∧ i = .int .i64 (j : Int) ∧ RN w wr g gl s l st (nbox [(m0 : Int), m1, m2, m3, m4, m5, m6]) ∧ LedOwn (gl + 2) wr s l us ∧ Box wr ga 46 #[.int .i64 x0, .slice ca cs.length cc, .bool (decide (n1 = 1)), .int .i64 x2] ∧ wr.ownsRow (ga + 1) 3 1 (.slice ca cs.length cc) cs.length (i64s cs) ∧ Hid (q = stp (sPush sN addCash (m0 - j) ⟨x0, cs, (decide (n1 = 1)), x2⟩ st) (fun x st => stp (sPush (sAcct m0) addAcct (m3 - (k + 1)) (addAcct l x) st) (sL4 m4 m5 m6))) ∧ Hid (cs.length = j)) (fun i _ => m0 - (intOf i).toNat)
                    case atStart => exact ⟨0, [], none, 0, _, by omega, rfl, X3.out, O3.out, B3.out, World.ownsRow_nil _ _ _ _, E3, rfl⟩
                    case round =>
                      clear X3 O3 B3 E3
                      obtain ⟨j, cs, ca, cc, st, hj, rfl, XR, OR, BR, CR, ER, HCl⟩ := hrel
                      have XI := Lib.hid XR
                      have HO := Lib.hid OR
                      have BI := Lib.hid BR
                      have CI := Lib.hid CR
                      have kn : wr.cell? ⟨gl + 1, 0, none⟩ = some (.int .i64 (m0 : Int)) := XI.out.nb.cell 0
                      clear XR OR BR CR
                      by_cases hlj : j < m0
                      · have E0 := Lib.hid (spush_succ (m := m0 - (j + 1)) ER.out (by omega))
                        clear ER
                        go_upto_region 44 with fail
                        clear kn
                        have HO1 := Lib.hid (HO.out.below (bel_of ⟨1, rfl⟩ : Below wr.heap.size wr wr.drew))
                        have HC := Lib.hid (own_drew CI.out)
                        have RDA := Lib.hid XI.out.drew.rd
                        clear HO
                        have HO := HO1
                        clear HO1
                        refine stage_region 6 (fun W => W.cell? ⟨ga, 1, none⟩ = some (.slice ca cs.length cc) ∧ RX w W g gl s l ∧ Box W (gl + 1) 79 (nbox [(m0 : Int), m1, m2, m3, m4, m5, m6]) ∧ Box W ga 46 #[.int .i64 x0, .slice ca cs.length cc, .bool (decide (n1 = 1)), .int .i64 x2]) (by kernel_rfl) ?_
                        have HS := And.intro XI.out.rx.drew (And.intro (box_drew XI.out.nb) (box_drew BI.out))
                        refine' stage_take (i := 0) _ rfl (by kernel_rfl) (by kernel_rfl) (by kernel_rfl) (by kernel_rfl) (fun _ _ _ h => h) ⟨HS.2.2.cell 1, HS⟩ _ (fun W hW => _) _
                        rotate_left
                        focus (go_simp; done)
                        focus (obtain ⟨k1, X9⟩ := hW; go_simp; first | done | (with_reducible rfl))
                        simp only [Act.put, List.setIfInBounds_toArray, List.set_cons_zero, List.set_cons_succ]
                        refine' stage_take (i := 1) _ rfl (by kernel_rfl) (by kernel_rfl) (by kernel_rfl) (by kernel_rfl) (fun _ _ _ h => h) ⟨HS.2.2.cell 1, HS⟩ _ (fun W hW => _) _
                        rotate_left
                        focus (go_simp; done)
                        focus (obtain ⟨k1, X9⟩ := hW; go_simp; first | done | (with_reducible rfl))
                        simp only [Act.put, List.setIfInBounds_toArray, List.set_cons_zero, List.set_cons_succ]
                        refine' stage_take (i := 2) _ rfl (by kernel_rfl) (by kernel_rfl) (by kernel_rfl) (by kernel_rfl) (fun _ _ _ h => h) ⟨HS.2.2.cell 1, HS⟩ _ (fun W hW => _) _
                        rotate_left
                        focus (go_simp; done)
                        focus (obtain ⟨k1, X9⟩ := hW; go_simp; first | done | (with_reducible rfl))
                        simp only [Act.put, List.setIfInBounds_toArray, List.set_cons_zero, List.set_cons_succ]
                        refine stage_only (i := 3) rfl (by kernel_rfl) ?_ (fun K hK => ?_)
                        focus (go_simp; done)
                        go_simp
                        go_at_call 32
                        refine (rnumber_rd g _ _ RDA.out).mono ?_
                        rintro e w9 ⟨y0, st8, hs, rfl, gg, rd9, dy⟩
                        go_simp
                        have E1 := Lib.hid (E0.out.trans (stp_eq hs))
                        have RD1 := Lib.hid rd9
                        replace HS := And.intro (HS.1.call gg) (And.intro (box_grown HS.2.1 gg (by omega)) (box_grown HS.2.2 gg (by omega)))
                        replace HO := Lib.hid (HO.out.other gg (by omega))
                        replace HC := Lib.hid (owns_other HC.out gg (by omega))
                        clear hs gg rd9 RDA E0
                        replace HS := HS
                        refine hK.out _ _ (fun _ => ⟨HS.2.2.cell 1, HS⟩) ?_
                        clear hK K
                        try simp only [Act.put, List.setIfInBounds_toArray, List.set_cons_zero, List.set_cons_succ]
                        refine stage_only (i := 4) rfl (by kernel_rfl) ?_ (fun K hK => ?_)
                        focus (go_simp; done)
                        go_simp
                        replace HO := Lib.hid (HO.out.below ((Below.refl _ _).alloc (Nat.le_refl _) (.cells #[.int .i64 y0] 3)))
                        replace HC := Lib.hid (owns_below HC.out ((Below.refl _ _).alloc (Nat.le_refl _) (.cells #[.int .i64 y0] 3)))
                        replace HS := And.intro (HS.1.alloc (.cells #[.int .i64 y0] 3)) (And.intro (HS.2.1.alloc (.cells #[.int .i64 y0] 3)) (HS.2.2.alloc (.cells #[.int .i64 y0] 3)))
                        refine hK.out _ _ (fun _ => ⟨HS.2.2.cell 1, HS⟩) ?_
                        clear hK K
                        try simp only [Act.put, List.setIfInBounds_toArray, List.set_cons_zero, List.set_cons_succ]
                        refine stage_only (i := 5) rfl (by kernel_rfl) ?_ (fun K hK => ?_)
                        focus (go_simp; done)
                        have hbase : ga + 1 ≤ (w9.alloc (.cells #[.int .i64 y0] 3)).heap.size := HS.2.2.lt
                        have hnew : At (w9.alloc (.cells #[.int .i64 y0] 3)) (some ⟨w9.heap.size, 0, none⟩) [.int .i64 y0] := at_alloc w9 #[.int .i64 y0] 3 (0, 0)
                        have HCR := HC.out
                        refine wp_append_at (.tmp 148) (.tmp 151) elem_int rfl (ga + 1) (.slice ca cs.length cc) cs.length (i64s cs) rfl HCR (some ⟨w9.heap.size, 0, none⟩) 1 1 [.int .i64 y0] rfl rfl hnew (by simp [Value.oneCell']) (by have := HCl.out; unfold maxLen; omega) (by have := HCl.out; omega) hbase ?_
                        intro v9 wz own9 bel9 g9 _
                        obtain ⟨p9, q9, rfl, _⟩ := at_of_owns own9
                        replace RD1 := Lib.hid (rds_below (N := ga + 1) (rds_below (N := w9.heap.size) RD1.out ((Below.refl _ _).alloc (Nat.le_refl _) (.cells #[.int .i64 y0] 3)) (rds_lt RD1.out)) bel9 (by omega))
                        replace HO := Lib.hid (HO.out.under HU.out (bel9.mono (by omega)))
                        replace HC := Lib.hid own9
                        clear hbase hnew HCR g9 own9
                        replace HS := And.intro (HS.1.beside (bel9.mono (by omega))) (And.intro (HS.2.1.below bel9 (by omega)) (HS.2.2.below bel9 (by omega)))
                        refine hK.out _ _ (fun _ => ⟨HS.2.2.cell 1, HS⟩) ?_
                        clear hK K
                        try simp only [Act.put, List.setIfInBounds_toArray, List.set_cons_zero, List.set_cons_succ]
                        refine stage_only (i := 6) rfl (by kernel_rfl) ?_ (fun K hK => ?_)
                        focus (go_simp; done)
                        go_simp
                        refine hK.out _ _ (fun h => absurd h (by decide)) ?_
                        clear hK K
                        try simp only [Act.put, List.setIfInBounds_toArray, List.set_cons_zero, List.set_cons_succ]
                        refine stage_only (i := 7) rfl (by kernel_rfl) ?_ (fun K hK => ?_)
                        focus (go_simp; done)
                        have ck : wz.cell? ⟨ga, 1, none⟩ = some (.slice ca cs.length cc) := HS.2.2.cell 1
                        have fk : wz.frozen? ⟨ga, 1, none⟩ = false := HS.2.2.frozen 1
                        go_simp
                        clear ck fk
                        refine hK.out _ _ (fun h => absurd h (by decide)) ?_
                        clear hK K
                        try simp only [Act.put, List.setIfInBounds_toArray, List.set_cons_zero, List.set_cons_succ]
                        refine stage_end (by kernel_rfl) ?_
                        have XF9 : RN w wz g gl s l st8 (nbox [(m0 : Int), m1, m2, m3, m4, m5, m6]) := ⟨HS.1, HS.2.1, RD1.out⟩
                        have XF := Lib.hid (XF9.far hga 1 (.slice p9 (cs.length + 1) q9))
                        have OF := Lib.hid (HO.out.under HU.out ((Below.refl _ _).setCell (p := ⟨ga, 1, none⟩) (Nat.le_refl _) (.slice p9 (cs.length + 1) q9)))
                        have BF : Hid (Box (wz.setCell ⟨ga, 1, none⟩ (.slice p9 (cs.length + 1) q9)) ga 46 #[.int .i64 x0, .slice p9 (cs.length + 1) q9, .bool (decide (n1 = 1)), .int .i64 x2]) := HS.2.2.set 1 _
                        have CF := Lib.hid (own_box HC.out HS.2.2 (k := 1) (u := (.slice p9 (cs.length + 1) q9)) (by decide))
                        clear HS HO HC RD1 XI BI CI XF9
                        go_wp2_with fail
                        go_roundw
                        case rel => exact ⟨j + 1, cs ++ [y0], p9, q9, _, by omega, by go_num, XF.out, OF.out, by rw [List.length_append]; exact BF.out, by have h := CF.out; unfold i64s at h ⊢; rw [List.length_append, List.map_append]; exact h, E1, by have := HCl.out; unfold Hid; simp [this]⟩
                        case measure => simp [intOf]; omega
                      · obtain rfl : m0 = j := by omega
                        have E1 : Hid (q = stp (sPush (sAcct m0) addAcct (m3 - (k + 1)) (addAcct l ⟨x0, cs, (decide (n1 = 1)), x2⟩) st) (sL4 m4 m5 m6)) := by
                          have h := spush_zero ER.out (by omega)
                          exact h
                        clear ER
                        go_upto_region 45 with fail
                        clear kn
                        have k4 : wr.cell? ⟨gl, 4, none⟩ = some (.slice s.a4 l.accts.length s.c4) := XI.out.rx.bx.cell 4
                        have a0 : wr.cell? ⟨ga, 0, none⟩ = some (.int .i64 x0) := BI.out.cell 0
                        have a1 : wr.cell? ⟨ga, 1, none⟩ = some (.slice ca cs.length cc) := BI.out.cell 1
                        have a2 : wr.cell? ⟨ga, 2, none⟩ = some (.bool (decide (n1 = 1))) := BI.out.cell 2
                        have a3 : wr.cell? ⟨ga, 3, none⟩ = some (.int .i64 x2) := BI.out.cell 3
                        have hbase : gl + 2 ≤ (wr.alloc (.cells #[.int .i64 x0, .slice ca cs.length cc, .bool (decide (n1 = 1)), .int .i64 x2] 46)).heap.size := (XI.out.alloc (.cells #[.int .i64 x0, .slice ca cs.length cc, .bool (decide (n1 = 1)), .int .i64 x2] 46)).nb.lt
                        have HOA := Lib.hid (HO.out.below ((Below.refl _ _).alloc (Nat.le_refl _) (.cells #[.int .i64 x0, .slice ca cs.length cc, .bool (decide (n1 = 1)), .int .i64 x2] 46)))
                        have HR := Lib.hid HOA.out.accts
                        have HX := Lib.hid (XI.out.alloc (.cells #[.int .i64 x0, .slice ca cs.length cc, .bool (decide (n1 = 1)), .int .i64 x2] 46))
                        have HC := Lib.hid (owns_below CI.out ((Below.refl _ _).alloc (Nat.le_refl _) (.cells #[.int .i64 x0, .slice ca cs.length cc, .bool (decide (n1 = 1)), .int .i64 x2] 46)))
                        have hnew := Lib.hid (at_alloc wr #[.int .i64 x0, .slice ca cs.length cc, .bool (decide (n1 = 1)), .int .i64 x2] 46 (0, 0))
                        have HAp := Lib.hid (HU.out.apart CI.out (by omega))
                        clear XI BI CI HO
                        go_upto_region 37 with (at_builtin; refine wpList_append_at _ rfl (.tmp 155) (.tmp 157) elem_acc rfl (gl + 2) (.slice s.a4 l.accts.length s.c4) l.accts.length (us.flatMap accC) rfl HR.out (some ⟨wr.heap.size, 0, none⟩) 1 1 [.int .i64 x0, .slice ca cs.length cc, .bool (decide (n1 = 1)), .int .i64 x2] rfl rfl hnew.out (by simp [Value.oneCell']) (by have := HLen.out; unfold maxLen; omega) (by have := HLen.out; omega) hbase ?_; intro v9 wz own9 bel9 g9 _; obtain ⟨p9, q9, rfl, _⟩ := at_of_owns own9; have ck : wz.cell? ⟨gl, 4, none⟩ = some (.slice s.a4 l.accts.length s.c4) := (HX.out.beside bel9).rx.bx.cell 4; have fk : wz.frozen? ⟨gl, 4, none⟩ = false := (HX.out.beside bel9).rx.bx.frozen 4)
                        have HP := HOA.out.push (a := ⟨x0, cs, (decide (n1 = 1)), x2⟩) (HC.out.mono (by omega)) HAp.out.1 HAp.out.2 own9 g9
                        have XF := Lib.hid ((HX.out.beside bel9).set (s' := { s with a4 := p9, c4 := q9 }) (l' := addAcct l ⟨x0, cs, (decide (n1 = 1)), x2⟩) 4 (.slice p9 (l.accts.length + 1) q9) (by simp [addAcct]))
                        have OF := Lib.hid (HP.box (HX.out.beside bel9).rx.bx 4 (.slice p9 (l.accts.length + 1) q9))
                        clear HP HX HR HOA HC HAp hnew hbase k4 a0 a1 a2 a3 ck fk own9 bel9 g9 HU
                        go_wp2_with fail
                        go_roundw
                        case rel => exact ⟨k + 1, addAcct l ⟨x0, cs, (decide (n1 = 1)), x2⟩, _, _, _, by omega, by go_num, XF.out, OF.out, E1, by have := HLen.out; unfold Hid; simp [addAcct, this], HNil⟩
                        case measure => simp [intOf]; omega
                  · obtain rfl : m3 = k := by omega
                    have E := Lib.hid (spush_zero ER.out (by omega))
                    clear ER
                    simp only [sL4] at E
                    go_wp2_with fail
                    go_loopw [18] (fun i wr => ∃ (k : Nat) (l : Led) (s : Lists) (us : List (Value × Acc)) (st : ST), k ≤ m4 ∧ i = .int .i64 (k : Int) ∧ RN w wr g gl s l st (nbox [(m0 : Int), m1, m2, m3, m4, m5, m6]) ∧ LedOwn (gl + 2) wr s l us ∧ Hid (q = stp (sPush sTri addPos (m4 - k) l st) (sL5 m5 m6)) ∧ Hid (l.poss.length = k) ∧ Hid (nil6 l)) (fun i _ => m4 - (intOf i).toNat)
                    case atStart => exact ⟨0, _, _, _, _, by omega, rfl, XI.out, HO.out, E, by have := HNil.out.1; unfold Hid; rw [this]; rfl, HNil.out.2⟩
                    case round =>
                      clear XI E HO HNil HLen kn
                      obtain ⟨k, l, s, us, st, hk, rfl, XR, OR, ER, HLen, HNil⟩ := hrel
                      have XI := Lib.hid XR
                      have HO := Lib.hid OR
                      have kn : wr.cell? ⟨gl + 1, 4, none⟩ = some (.int .i64 (m4 : Int)) := XI.out.nb.cell 4
                      clear XR OR
                      by_cases hlt : k < m4
                      · have E0 := Lib.hid (spush_succ (m := m4 - (k + 1)) ER.out (by omega))
                        clear ER
                        simp only [sTri, stp_stp, stp_pure] at E0
                        have X0 := XI
                        have O0 := HO
                        clear XI HO
                        go_upto_region 50 with (first | (go_at_call 32; refine (rnumber_rd g _ _ X0.out.rd).mono ?_; rintro e w1 ⟨x0, st1, hs, rfl, gg, rd, d0⟩; have X1 := Lib.hid (X0.out.call gg rd); have E1 := Lib.hid (E0.out.trans (stp_eq hs)); have O1 := Lib.hid (O0.out.other gg (by omega)); clear hs gg rd; have HBR := Box.new w1 63 #[.int .i64 0, .int .i64 0, .int .i64 0]) | ((with_reducible refine wpList_store_box rfl 63 (.tmp 19) (.tmp 168) rfl #[.int .i64 x0, .int .i64 0, .int .i64 0] HBR ?_ ?_ ?_ ?_ ?_ ?_); (· kernel_rfl); (· rfl); (· simp [Value.oneCell']); (· rfl); (· rfl)))
                        have bq : Below w1.heap.size w1 ((w1.alloc (.cells #[.int .i64 0, .int .i64 0, .int .i64 0] 63)).setRow w1.heap.size #[.int .i64 x0, .int .i64 0, .int .i64 0]) := below_setRow ((Below.refl _ _).alloc (Nat.le_refl _) _) (Nat.le_refl _) _
                        have hga : gl + 2 ≤ w1.heap.size := X1.out.nb.lt
                        have XQ := Lib.hid (X1.out.below bq)
                        have OQ := Lib.hid (O1.out.below bq)
                        have HU := Lib.hid O1.out.lies
                        have B1 := Lib.hid (HBR.row #[.int .i64 x0, .int .i64 0, .int .i64 0])
                        clear bq X1 O1 HBR X0 O0 E0 kn
                        generalize (w1.alloc (.cells #[.int .i64 0, .int .i64 0, .int .i64 0] 63)).setRow w1.heap.size #[.int .i64 x0, .int .i64 0, .int .i64 0] = wq at *
                        generalize w1.heap.size = ga at *
                        have X1 := XQ
                        have O1 := OQ
                        clear XQ OQ
                        go_upto_region 51 with (go_at_call 32; refine (rnumber_rd g _ _ X1.out.rd).mono ?_; rintro e w2 ⟨x1, st2, hs, rfl, gg, rd, d1⟩; have X2 := Lib.hid (X1.out.call gg rd); have E2 := Lib.hid (E1.out.trans (stp_eq hs)); have O2 := Lib.hid (O1.out.other gg (by omega)); have B2 := Lib.hid (box_grown B1.out gg (by omega)); have ck : w2.cell? ⟨ga, 1, none⟩ = some (.int .i64 0) := B2.out.cell 1; have fk : w2.frozen? ⟨ga, 1, none⟩ = false := B2.out.frozen 1; clear hs gg rd)
                        change Code.wp _ _ _ _ (w2.setCell ⟨ga, 1, none⟩ (.int .i64 x1))
                        have XQ := Lib.hid (X2.out.far hga 1 (.int .i64 x1))
                        have OQ := Lib.hid (O2.out.under HU.out ((Below.refl _ _).setCell (p := ⟨ga, 1, none⟩) (Nat.le_refl _) (.int .i64 x1)))
                        have BQ : Hid (Box (w2.setCell ⟨ga, 1, none⟩ (.int .i64 x1)) ga 63 #[.int .i64 x0, .int .i64 x1, .int .i64 0]) := B2.out.set 1 (.int .i64 x1)
                        clear ck fk X2 O2 B2 X1 O1 B1 E1
                        generalize w2.setCell ⟨ga, 1, none⟩ (.int .i64 x1) = wq at *
                        have X2 := XQ
                        have O2 := OQ
                        have B2 := BQ
                        clear XQ OQ BQ
                        go_upto_region 52 with (go_at_call 32; refine (rnumber_rd g _ _ X2.out.rd).mono ?_; rintro e w3 ⟨x2, st3, hs, rfl, gg, rd, d2⟩; have X3 := Lib.hid (X2.out.call gg rd); have E3 := Lib.hid (E2.out.trans (stp_eq hs)); have O3 := Lib.hid (O2.out.other gg (by omega)); have B3 := Lib.hid (box_grown B2.out gg (by omega)); have ck : w3.cell? ⟨ga, 2, none⟩ = some (.int .i64 0) := B3.out.cell 2; have fk : w3.frozen? ⟨ga, 2, none⟩ = false := B3.out.frozen 2; clear hs gg rd)
                        change Code.wp _ _ _ _ (w3.setCell ⟨ga, 2, none⟩ (.int .i64 x2))
                        have XQ := Lib.hid (X3.out.far hga 2 (.int .i64 x2))
                        have OQ := Lib.hid (O3.out.under HU.out ((Below.refl _ _).setCell (p := ⟨ga, 2, none⟩) (Nat.le_refl _) (.int .i64 x2)))
                        have BQ : Hid (Box (w3.setCell ⟨ga, 2, none⟩ (.int .i64 x2)) ga 63 #[.int .i64 x0, .int .i64 x1, .int .i64 x2]) := B3.out.set 2 (.int .i64 x2)
                        clear ck fk X3 O3 B3 X2 O2 B2 E2
                        generalize w3.setCell ⟨ga, 2, none⟩ (.int .i64 x2) = wq at *
                        have X3 := XQ
                        have O3 := OQ
                        have B3 := BQ
                        clear XQ OQ BQ
                        have k4 : wq.cell? ⟨gl, 5, none⟩ = some (.slice s.a5 l.poss.length s.c5) := X3.out.rx.bx.cell 5
                        have b0 : wq.cell? ⟨ga, 0, none⟩ = some (.int .i64 x0) := B3.out.cell 0
                        have b1 : wq.cell? ⟨ga, 1, none⟩ = some (.int .i64 x1) := B3.out.cell 1
                        have b2 : wq.cell? ⟨ga, 2, none⟩ = some (.int .i64 x2) := B3.out.cell 2
                        have hbase : gl + 2 ≤ (wq.alloc (.cells #[.int .i64 x0, .int .i64 x1, .int .i64 x2] 63)).heap.size := (X3.out.alloc (.cells #[.int .i64 x0, .int .i64 x1, .int .i64 x2] 63)).nb.lt
                        have HOA := Lib.hid (O3.out.below ((Below.refl _ _).alloc (Nat.le_refl _) (.cells #[.int .i64 x0, .int .i64 x1, .int .i64 x2] 63)))
                        have HR := Lib.hid HOA.out.poss
                        have HX := Lib.hid (X3.out.alloc (.cells #[.int .i64 x0, .int .i64 x1, .int .i64 x2] 63))
                        have hnew := Lib.hid (at_alloc wq #[.int .i64 x0, .int .i64 x1, .int .i64 x2] 63 (0, 0))
                        clear X3 O3 B3
                        go_upto_region 48 with (at_builtin; refine wpList_append_at _ rfl (.tmp 176) (.tmp 178) elem_pos rfl (gl + 2) (.slice s.a5 l.poss.length s.c5) l.poss.length (l.poss.flatMap triC) rfl HR.out (some ⟨wq.heap.size, 0, none⟩) 1 1 [.int .i64 x0, .int .i64 x1, .int .i64 x2] rfl rfl hnew.out (by simp [Value.oneCell']) (by have := HLen.out; unfold maxLen; omega) (by have := HLen.out; omega) hbase ?_; intro v9 wz own9 bel9 g9 _; obtain ⟨p9, q9, rfl, _⟩ := at_of_owns own9; have ck : wz.cell? ⟨gl, 5, none⟩ = some (.slice s.a5 l.poss.length s.c5) := (HX.out.beside bel9).rx.bx.cell 5; have fk : wz.frozen? ⟨gl, 5, none⟩ = false := (HX.out.beside bel9).rx.bx.frozen 5)
                        have HP := HOA.out.pushPos (x := (x0, x1, x2)) own9 g9
                        have XF := Lib.hid ((HX.out.beside bel9).set (s' := { s with a5 := p9, c5 := q9 }) (l' := addPos l (x0, x1, x2)) 5 (.slice p9 (l.poss.length + 1) q9) (by simp [addCur, addUnd, addIns, addPos, addOrd, addLoc]))
                        have OF := Lib.hid (HP.box (HX.out.beside bel9).rx.bx 5 (.slice p9 (l.poss.length + 1) q9))
                        clear HP HX HR HOA hnew hbase k4 b0 b1 b2 ck fk own9 bel9 g9 HU
                        go_wp2_with fail
                        go_roundw
                        case rel => exact ⟨k + 1, addPos l (x0, x1, x2), _, _, _, by omega, by go_num, XF.out, OF.out, E3, by have := HLen.out; unfold Hid; simp [addPos, this], HNil⟩
                        case measure => simp [intOf]; omega
                      · obtain rfl : m4 = k := by omega
                        have E := Lib.hid (spush_zero ER.out (by omega))
                        clear ER
                        simp only [sL5] at E
                        go_wp2_with fail
                        go_loopw [20] (fun i wr => ∃ (k : Nat) (l : Led) (s : Lists) (us : List (Value × Acc)) (st : ST), k ≤ m5 ∧ i = .int .i64 (k : Int) ∧ RN w wr g gl s l st (nbox [(m0 : Int), m1, m2, m3, m4, m5, m6]) ∧ LedOwn (gl + 2) wr s l us ∧ Hid (q = stp (sPush sOrd addOrd (m5 - k) l st) (sL6 m6)) ∧ Hid (l.orders.length = k) ∧ Hid (nil7 l)) (fun i _ => m5 - (intOf i).toNat)
                        case atStart => exact ⟨0, _, _, _, _, by omega, rfl, XI.out, HO.out, E, by have := HNil.out.1; unfold Hid; rw [this]; rfl, HNil.out.2⟩
                        case round =>
                          clear XI E HO HNil HLen kn
                          obtain ⟨k, l, s, us, st, hk, rfl, XR, OR, ER, HLen, HNil⟩ := hrel
                          have XI := Lib.hid XR
                          have HO := Lib.hid OR
                          have kn : wr.cell? ⟨gl + 1, 5, none⟩ = some (.int .i64 (m5 : Int)) := XI.out.nb.cell 5
                          clear XR OR
                          by_cases hlt : k < m5
                          · have E0 := Lib.hid (spush_succ (m := m5 - (k + 1)) ER.out (by omega))
                            clear ER
                            simp only [sOrd, stp_stp, stp_pure] at E0
                            have X0 := XI
                            have O0 := HO
                            clear XI HO
                            go_upto_region 57 with (first | (go_at_call 32; refine (rnumber_rd g _ _ X0.out.rd).mono ?_; rintro e w1 ⟨x0, st1, hs, rfl, gg, rd, d0⟩; have X1 := Lib.hid (X0.out.call gg rd); have E1 := Lib.hid (E0.out.trans (stp_eq hs)); have O1 := Lib.hid (O0.out.other gg (by omega)); clear hs gg rd; have HBR := Box.new w1 65 #[.int .i64 0, .int .i64 0, .int .i64 0, .int .i64 0, .int .i64 0]) | ((with_reducible refine wpList_store_box rfl 65 (.tmp 21) (.tmp 189) rfl #[.int .i64 x0, .int .i64 0, .int .i64 0, .int .i64 0, .int .i64 0] HBR ?_ ?_ ?_ ?_ ?_ ?_); (· kernel_rfl); (· rfl); (· simp [Value.oneCell']); (· rfl); (· rfl)))
                            have bq : Below w1.heap.size w1 ((w1.alloc (.cells #[.int .i64 0, .int .i64 0, .int .i64 0, .int .i64 0, .int .i64 0] 65)).setRow w1.heap.size #[.int .i64 x0, .int .i64 0, .int .i64 0, .int .i64 0, .int .i64 0]) := below_setRow ((Below.refl _ _).alloc (Nat.le_refl _) _) (Nat.le_refl _) _
                            have hga : gl + 2 ≤ w1.heap.size := X1.out.nb.lt
                            have XQ := Lib.hid (X1.out.below bq)
                            have OQ := Lib.hid (O1.out.below bq)
                            have HU := Lib.hid O1.out.lies
                            have B1 := Lib.hid (HBR.row #[.int .i64 x0, .int .i64 0, .int .i64 0, .int .i64 0, .int .i64 0])
                            clear bq X1 O1 HBR X0 O0 E0 kn
                            generalize (w1.alloc (.cells #[.int .i64 0, .int .i64 0, .int .i64 0, .int .i64 0, .int .i64 0] 65)).setRow w1.heap.size #[.int .i64 x0, .int .i64 0, .int .i64 0, .int .i64 0, .int .i64 0] = wq at *
                            generalize w1.heap.size = ga at *
                            have X1 := XQ
                            have O1 := OQ
                            clear XQ OQ
                            go_upto_region 58 with (go_at_call 32; refine (rnumber_rd g _ _ X1.out.rd).mono ?_; rintro e w2 ⟨x1, st2, hs, rfl, gg, rd, d1⟩; have X2 := Lib.hid (X1.out.call gg rd); have E2 := Lib.hid (E1.out.trans (stp_eq hs)); have O2 := Lib.hid (O1.out.other gg (by omega)); have B2 := Lib.hid (box_grown B1.out gg (by omega)); have ck : w2.cell? ⟨ga, 1, none⟩ = some (.int .i64 0) := B2.out.cell 1; have fk : w2.frozen? ⟨ga, 1, none⟩ = false := B2.out.frozen 1; clear hs gg rd)
                            change Code.wp _ _ _ _ (w2.setCell ⟨ga, 1, none⟩ (.int .i64 x1))
                            have XQ := Lib.hid (X2.out.far hga 1 (.int .i64 x1))
                            have OQ := Lib.hid (O2.out.under HU.out ((Below.refl _ _).setCell (p := ⟨ga, 1, none⟩) (Nat.le_refl _) (.int .i64 x1)))
                            have BQ : Hid (Box (w2.setCell ⟨ga, 1, none⟩ (.int .i64 x1)) ga 65 #[.int .i64 x0, .int .i64 x1, .int .i64 0, .int .i64 0, .int .i64 0]) := B2.out.set 1 (.int .i64 x1)
                            clear ck fk X2 O2 B2 X1 O1 B1 E1
                            generalize w2.setCell ⟨ga, 1, none⟩ (.int .i64 x1) = wq at *
                            have X2 := XQ
                            have O2 := OQ
                            have B2 := BQ
                            clear XQ OQ BQ
                            go_upto_region 59 with (go_at_call 32; refine (rnumber_rd g _ _ X2.out.rd).mono ?_; rintro e w3 ⟨x2, st3, hs, rfl, gg, rd, d2⟩; have X3 := Lib.hid (X2.out.call gg rd); have E3 := Lib.hid (E2.out.trans (stp_eq hs)); have O3 := Lib.hid (O2.out.other gg (by omega)); have B3 := Lib.hid (box_grown B2.out gg (by omega)); have ck : w3.cell? ⟨ga, 2, none⟩ = some (.int .i64 0) := B3.out.cell 2; have fk : w3.frozen? ⟨ga, 2, none⟩ = false := B3.out.frozen 2; clear hs gg rd)
                            change Code.wp _ _ _ _ (w3.setCell ⟨ga, 2, none⟩ (.int .i64 x2))
                            have XQ := Lib.hid (X3.out.far hga 2 (.int .i64 x2))
                            have OQ := Lib.hid (O3.out.under HU.out ((Below.refl _ _).setCell (p := ⟨ga, 2, none⟩) (Nat.le_refl _) (.int .i64 x2)))
                            have BQ : Hid (Box (w3.setCell ⟨ga, 2, none⟩ (.int .i64 x2)) ga 65 #[.int .i64 x0, .int .i64 x1, .int .i64 x2, .int .i64 0, .int .i64 0]) := B3.out.set 2 (.int .i64 x2)
                            clear ck fk X3 O3 B3 X2 O2 B2 E2
                            generalize w3.setCell ⟨ga, 2, none⟩ (.int .i64 x2) = wq at *
                            have X3 := XQ
                            have O3 := OQ
                            have B3 := BQ
                            clear XQ OQ BQ
                            go_upto_region 60 with (go_at_call 32; refine (rnumber_rd g _ _ X3.out.rd).mono ?_; rintro e w4 ⟨x3, st4, hs, rfl, gg, rd, d3⟩; have X4 := Lib.hid (X3.out.call gg rd); have E4 := Lib.hid (E3.out.trans (stp_eq hs)); have O4 := Lib.hid (O3.out.other gg (by omega)); have B4 := Lib.hid (box_grown B3.out gg (by omega)); have ck : w4.cell? ⟨ga, 3, none⟩ = some (.int .i64 0) := B4.out.cell 3; have fk : w4.frozen? ⟨ga, 3, none⟩ = false := B4.out.frozen 3; clear hs gg rd)
                            change Code.wp _ _ _ _ (w4.setCell ⟨ga, 3, none⟩ (.int .i64 x3))
                            have XQ := Lib.hid (X4.out.far hga 3 (.int .i64 x3))
                            have OQ := Lib.hid (O4.out.under HU.out ((Below.refl _ _).setCell (p := ⟨ga, 3, none⟩) (Nat.le_refl _) (.int .i64 x3)))
                            have BQ : Hid (Box (w4.setCell ⟨ga, 3, none⟩ (.int .i64 x3)) ga 65 #[.int .i64 x0, .int .i64 x1, .int .i64 x2, .int .i64 x3, .int .i64 0]) := B4.out.set 3 (.int .i64 x3)
                            clear ck fk X4 O4 B4 X3 O3 B3 E3
                            generalize w4.setCell ⟨ga, 3, none⟩ (.int .i64 x3) = wq at *
                            have X4 := XQ
                            have O4 := OQ
                            have B4 := BQ
                            clear XQ OQ BQ
                            go_upto_region 61 with (go_at_call 32; refine (rnumber_rd g _ _ X4.out.rd).mono ?_; rintro e w5 ⟨x4, st5, hs, rfl, gg, rd, d4⟩; have X5 := Lib.hid (X4.out.call gg rd); have E5 := Lib.hid (E4.out.trans (stp_eq hs)); have O5 := Lib.hid (O4.out.other gg (by omega)); have B5 := Lib.hid (box_grown B4.out gg (by omega)); have ck : w5.cell? ⟨ga, 4, none⟩ = some (.int .i64 0) := B5.out.cell 4; have fk : w5.frozen? ⟨ga, 4, none⟩ = false := B5.out.frozen 4; clear hs gg rd)
                            change Code.wp _ _ _ _ (w5.setCell ⟨ga, 4, none⟩ (.int .i64 x4))
                            have XQ := Lib.hid (X5.out.far hga 4 (.int .i64 x4))
                            have OQ := Lib.hid (O5.out.under HU.out ((Below.refl _ _).setCell (p := ⟨ga, 4, none⟩) (Nat.le_refl _) (.int .i64 x4)))
                            have BQ : Hid (Box (w5.setCell ⟨ga, 4, none⟩ (.int .i64 x4)) ga 65 #[.int .i64 x0, .int .i64 x1, .int .i64 x2, .int .i64 x3, .int .i64 x4]) := B5.out.set 4 (.int .i64 x4)
                            clear ck fk X5 O5 B5 X4 O4 B4 E4
                            generalize w5.setCell ⟨ga, 4, none⟩ (.int .i64 x4) = wq at *
                            have X5 := XQ
                            have O5 := OQ
                            have B5 := BQ
                            clear XQ OQ BQ
                            have k4 : wq.cell? ⟨gl, 6, none⟩ = some (.slice s.a6 l.orders.length s.c6) := X5.out.rx.bx.cell 6
                            have b0 : wq.cell? ⟨ga, 0, none⟩ = some (.int .i64 x0) := B5.out.cell 0
                            have b1 : wq.cell? ⟨ga, 1, none⟩ = some (.int .i64 x1) := B5.out.cell 1
                            have b2 : wq.cell? ⟨ga, 2, none⟩ = some (.int .i64 x2) := B5.out.cell 2
                            have b3 : wq.cell? ⟨ga, 3, none⟩ = some (.int .i64 x3) := B5.out.cell 3
                            have b4 : wq.cell? ⟨ga, 4, none⟩ = some (.int .i64 x4) := B5.out.cell 4
                            have hbase : gl + 2 ≤ (wq.alloc (.cells #[.int .i64 x0, .int .i64 x1, .int .i64 x2, .int .i64 x3, .int .i64 x4] 65)).heap.size := (X5.out.alloc (.cells #[.int .i64 x0, .int .i64 x1, .int .i64 x2, .int .i64 x3, .int .i64 x4] 65)).nb.lt
                            have HOA := Lib.hid (O5.out.below ((Below.refl _ _).alloc (Nat.le_refl _) (.cells #[.int .i64 x0, .int .i64 x1, .int .i64 x2, .int .i64 x3, .int .i64 x4] 65)))
                            have HR := Lib.hid HOA.out.orders
                            have HX := Lib.hid (X5.out.alloc (.cells #[.int .i64 x0, .int .i64 x1, .int .i64 x2, .int .i64 x3, .int .i64 x4] 65))
                            have hnew := Lib.hid (at_alloc wq #[.int .i64 x0, .int .i64 x1, .int .i64 x2, .int .i64 x3, .int .i64 x4] 65 (0, 0))
                            clear X5 O5 B5
                            go_upto_region 55 with (at_builtin; refine wpList_append_at _ rfl (.tmp 203) (.tmp 205) elem_ord rfl (gl + 2) (.slice s.a6 l.orders.length s.c6) l.orders.length (l.orders.flatMap ordC) rfl HR.out (some ⟨wq.heap.size, 0, none⟩) 1 1 [.int .i64 x0, .int .i64 x1, .int .i64 x2, .int .i64 x3, .int .i64 x4] rfl rfl hnew.out (by simp [Value.oneCell']) (by have := HLen.out; unfold maxLen; omega) (by have := HLen.out; omega) hbase ?_; intro v9 wz own9 bel9 g9 _; obtain ⟨p9, q9, rfl, _⟩ := at_of_owns own9; have ck : wz.cell? ⟨gl, 6, none⟩ = some (.slice s.a6 l.orders.length s.c6) := (HX.out.beside bel9).rx.bx.cell 6; have fk : wz.frozen? ⟨gl, 6, none⟩ = false := (HX.out.beside bel9).rx.bx.frozen 6)
                            have HP := HOA.out.pushOrd (x := ⟨x0, x1, x2, x3, x4⟩) own9 g9
                            have XF := Lib.hid ((HX.out.beside bel9).set (s' := { s with a6 := p9, c6 := q9 }) (l' := addOrd l ⟨x0, x1, x2, x3, x4⟩) 6 (.slice p9 (l.orders.length + 1) q9) (by simp [addCur, addUnd, addIns, addPos, addOrd, addLoc]))
                            have OF := Lib.hid (HP.box (HX.out.beside bel9).rx.bx 6 (.slice p9 (l.orders.length + 1) q9))
                            clear HP HX HR HOA hnew hbase k4 b0 b1 b2 b3 b4 ck fk own9 bel9 g9 HU
                            go_wp2_with fail
                            go_roundw
                            case rel => exact ⟨k + 1, addOrd l ⟨x0, x1, x2, x3, x4⟩, _, _, _, by omega, by go_num, XF.out, OF.out, E5, by have := HLen.out; unfold Hid; simp [addOrd, this], HNil⟩
                            case measure => simp [intOf]; omega
                          · obtain rfl : m5 = k := by omega
                            have E := Lib.hid (spush_zero ER.out (by omega))
                            clear ER
                            simp only [sL6] at E
                            have E1 := Lib.hid (E.out.trans (stp_id _).symm)
                            clear E
                            have E := E1
                            clear E1
                            go_wp2_with fail
                            go_loopw [22] (fun i wr => ∃ (k : Nat) (l : Led) (s : Lists) (us : List (Value × Acc)) (st : ST), k ≤ m6 ∧ i = .int .i64 (k : Int) ∧ RN w wr g gl s l st (nbox [(m0 : Int), m1, m2, m3, m4, m5, m6]) ∧ LedOwn (gl + 2) wr s l us ∧ Hid (q = stp (sPush sTri addLoc (m6 - k) l st) (fun l st => (l, st))) ∧ Hid (l.locs.length = k) ∧ Hid (nil8 l)) (fun i _ => m6 - (intOf i).toNat)
                            case atStart => exact ⟨0, _, _, _, _, by omega, rfl, XI.out, HO.out, E, by have := HNil.out; unfold Hid; rw [this]; rfl, trivial⟩
                            case round =>
                              clear XI E HO HNil HLen kn
                              obtain ⟨k, l, s, us, st, hk, rfl, XR, OR, ER, HLen, HNil⟩ := hrel
                              have XI := Lib.hid XR
                              have HO := Lib.hid OR
                              have kn : wr.cell? ⟨gl + 1, 6, none⟩ = some (.int .i64 (m6 : Int)) := XI.out.nb.cell 6
                              clear XR OR
                              by_cases hlt : k < m6
                              · have E0 := Lib.hid (spush_succ (m := m6 - (k + 1)) ER.out (by omega))
                                clear ER
                                simp only [sTri, stp_stp, stp_pure] at E0
                                have X0 := XI
                                have O0 := HO
                                clear XI HO
                                go_upto_region 66 with (first | (go_at_call 32; refine (rnumber_rd g _ _ X0.out.rd).mono ?_; rintro e w1 ⟨x0, st1, hs, rfl, gg, rd, d0⟩; have X1 := Lib.hid (X0.out.call gg rd); have E1 := Lib.hid (E0.out.trans (stp_eq hs)); have O1 := Lib.hid (O0.out.other gg (by omega)); clear hs gg rd; have HBR := Box.new w1 66 #[.int .i64 0, .int .i64 0, .int .i64 0]) | ((with_reducible refine wpList_store_box rfl 66 (.tmp 23) (.tmp 216) rfl #[.int .i64 x0, .int .i64 0, .int .i64 0] HBR ?_ ?_ ?_ ?_ ?_ ?_); (· kernel_rfl); (· rfl); (· simp [Value.oneCell']); (· rfl); (· rfl)))
                                have bq : Below w1.heap.size w1 ((w1.alloc (.cells #[.int .i64 0, .int .i64 0, .int .i64 0] 66)).setRow w1.heap.size #[.int .i64 x0, .int .i64 0, .int .i64 0]) := below_setRow ((Below.refl _ _).alloc (Nat.le_refl _) _) (Nat.le_refl _) _
                                have hga : gl + 2 ≤ w1.heap.size := X1.out.nb.lt
                                have XQ := Lib.hid (X1.out.below bq)
                                have OQ := Lib.hid (O1.out.below bq)
                                have HU := Lib.hid O1.out.lies
                                have B1 := Lib.hid (HBR.row #[.int .i64 x0, .int .i64 0, .int .i64 0])
                                clear bq X1 O1 HBR X0 O0 E0 kn
                                generalize (w1.alloc (.cells #[.int .i64 0, .int .i64 0, .int .i64 0] 66)).setRow w1.heap.size #[.int .i64 x0, .int .i64 0, .int .i64 0] = wq at *
                                generalize w1.heap.size = ga at *
                                have X1 := XQ
                                have O1 := OQ
                                clear XQ OQ
                                go_upto_region 67 with (go_at_call 32; refine (rnumber_rd g _ _ X1.out.rd).mono ?_; rintro e w2 ⟨x1, st2, hs, rfl, gg, rd, d1⟩; have X2 := Lib.hid (X1.out.call gg rd); have E2 := Lib.hid (E1.out.trans (stp_eq hs)); have O2 := Lib.hid (O1.out.other gg (by omega)); have B2 := Lib.hid (box_grown B1.out gg (by omega)); have ck : w2.cell? ⟨ga, 1, none⟩ = some (.int .i64 0) := B2.out.cell 1; have fk : w2.frozen? ⟨ga, 1, none⟩ = false := B2.out.frozen 1; clear hs gg rd)
                                change Code.wp _ _ _ _ (w2.setCell ⟨ga, 1, none⟩ (.int .i64 x1))
                                have XQ := Lib.hid (X2.out.far hga 1 (.int .i64 x1))
                                have OQ := Lib.hid (O2.out.under HU.out ((Below.refl _ _).setCell (p := ⟨ga, 1, none⟩) (Nat.le_refl _) (.int .i64 x1)))
                                have BQ : Hid (Box (w2.setCell ⟨ga, 1, none⟩ (.int .i64 x1)) ga 66 #[.int .i64 x0, .int .i64 x1, .int .i64 0]) := B2.out.set 1 (.int .i64 x1)
                                clear ck fk X2 O2 B2 X1 O1 B1 E1
                                generalize w2.setCell ⟨ga, 1, none⟩ (.int .i64 x1) = wq at *
                                have X2 := XQ
                                have O2 := OQ
                                have B2 := BQ
                                clear XQ OQ BQ
                                go_upto_region 68 with (go_at_call 32; refine (rnumber_rd g _ _ X2.out.rd).mono ?_; rintro e w3 ⟨x2, st3, hs, rfl, gg, rd, d2⟩; have X3 := Lib.hid (X2.out.call gg rd); have E3 := Lib.hid (E2.out.trans (stp_eq hs)); have O3 := Lib.hid (O2.out.other gg (by omega)); have B3 := Lib.hid (box_grown B2.out gg (by omega)); have ck : w3.cell? ⟨ga, 2, none⟩ = some (.int .i64 0) := B3.out.cell 2; have fk : w3.frozen? ⟨ga, 2, none⟩ = false := B3.out.frozen 2; clear hs gg rd)
                                change Code.wp _ _ _ _ (w3.setCell ⟨ga, 2, none⟩ (.int .i64 x2))
                                have XQ := Lib.hid (X3.out.far hga 2 (.int .i64 x2))
                                have OQ := Lib.hid (O3.out.under HU.out ((Below.refl _ _).setCell (p := ⟨ga, 2, none⟩) (Nat.le_refl _) (.int .i64 x2)))
                                have BQ : Hid (Box (w3.setCell ⟨ga, 2, none⟩ (.int .i64 x2)) ga 66 #[.int .i64 x0, .int .i64 x1, .int .i64 x2]) := B3.out.set 2 (.int .i64 x2)
                                clear ck fk X3 O3 B3 X2 O2 B2 E2
                                generalize w3.setCell ⟨ga, 2, none⟩ (.int .i64 x2) = wq at *
                                have X3 := XQ
                                have O3 := OQ
                                have B3 := BQ
                                clear XQ OQ BQ
                                have k4 : wq.cell? ⟨gl, 8, none⟩ = some (.slice s.a8 l.locs.length s.c8) := X3.out.rx.bx.cell 8
                                have b0 : wq.cell? ⟨ga, 0, none⟩ = some (.int .i64 x0) := B3.out.cell 0
                                have b1 : wq.cell? ⟨ga, 1, none⟩ = some (.int .i64 x1) := B3.out.cell 1
                                have b2 : wq.cell? ⟨ga, 2, none⟩ = some (.int .i64 x2) := B3.out.cell 2
                                have hbase : gl + 2 ≤ (wq.alloc (.cells #[.int .i64 x0, .int .i64 x1, .int .i64 x2] 66)).heap.size := (X3.out.alloc (.cells #[.int .i64 x0, .int .i64 x1, .int .i64 x2] 66)).nb.lt
                                have HOA := Lib.hid (O3.out.below ((Below.refl _ _).alloc (Nat.le_refl _) (.cells #[.int .i64 x0, .int .i64 x1, .int .i64 x2] 66)))
                                have HR := Lib.hid HOA.out.locs
                                have HX := Lib.hid (X3.out.alloc (.cells #[.int .i64 x0, .int .i64 x1, .int .i64 x2] 66))
                                have hnew := Lib.hid (at_alloc wq #[.int .i64 x0, .int .i64 x1, .int .i64 x2] 66 (0, 0))
                                clear X3 O3 B3
                                go_upto_region 64 with (at_builtin; refine wpList_append_at _ rfl (.tmp 224) (.tmp 226) elem_loc rfl (gl + 2) (.slice s.a8 l.locs.length s.c8) l.locs.length (l.locs.flatMap triC) rfl HR.out (some ⟨wq.heap.size, 0, none⟩) 1 1 [.int .i64 x0, .int .i64 x1, .int .i64 x2] rfl rfl hnew.out (by simp [Value.oneCell']) (by have := HLen.out; unfold maxLen; omega) (by have := HLen.out; omega) hbase ?_; intro v9 wz own9 bel9 g9 _; obtain ⟨p9, q9, rfl, _⟩ := at_of_owns own9; have ck : wz.cell? ⟨gl, 8, none⟩ = some (.slice s.a8 l.locs.length s.c8) := (HX.out.beside bel9).rx.bx.cell 8; have fk : wz.frozen? ⟨gl, 8, none⟩ = false := (HX.out.beside bel9).rx.bx.frozen 8)
                                have HP := HOA.out.pushLoc (x := (x0, x1, x2)) own9 g9
                                have XF := Lib.hid ((HX.out.beside bel9).set (s' := { s with a8 := p9, c8 := q9 }) (l' := addLoc l (x0, x1, x2)) 8 (.slice p9 (l.locs.length + 1) q9) (by simp [addCur, addUnd, addIns, addPos, addOrd, addLoc]))
                                have OF := Lib.hid (HP.box (HX.out.beside bel9).rx.bx 8 (.slice p9 (l.locs.length + 1) q9))
                                clear HP HX HR HOA hnew hbase k4 b0 b1 b2 ck fk own9 bel9 g9 HU
                                go_wp2_with fail
                                go_roundw
                                case rel => exact ⟨k + 1, addLoc l (x0, x1, x2), _, _, _, by omega, by go_num, XF.out, OF.out, E3, by have := HLen.out; unfold Hid; simp [addLoc, this], HNil⟩
                                case measure => simp [intOf]; omega
                              · obtain rfl : m6 = k := by omega
                                have E := Lib.hid (spush_zero ER.out (by omega))
                                clear ER
                                have HQ : Hid (q = (l, st)) := E
                                have hlow : Below w.heap.size w wr := grown_below XI.out.rx.gr (by have := HG.out; omega) (Nat.le_refl _)
                                have HLow := Lib.hid hlow
                                clear E hlow
                                go_upto_region 69 with fail
                                clear kn
                                rcases XI.out.rd.ex with ⟨b, a1, c1, rfl, hx, _, _, _, _⟩ | ⟨kk, v, rfl, hk, hx⟩
                                · have g0 : wr.cell? ⟨g, 0, none⟩ = some (.slice a1 b.length c1) := hx.cell 0
                                  have g1 : wr.cell? ⟨g, 1, none⟩ = some (.int .i64 0) := hx.cell 1
                                  have f1 : wr.frozen? ⟨g, 1, none⟩ = false := hx.frozen 1
                                  have HX := Lib.hid hx
                                  clear hx
                                  by_cases hr : 0 < b.length
                                  · have HRes : Hid (res = (ImgW.zeroLed, 13)) := by unfold Hid; rw [← HEnd.out, HQ.out]; exact if_pos hr
                                    clear HEnd HQ HFit
                                    go_upto_region 71 with fail
                                    have HE : Hid (Box (wr.setCell ⟨g, 1, none⟩ (.int .i64 13)) g 77 #[.slice a1 b.length c1, .int .i64 13]) := HX.out.set 1 _
                                    have HB : Hid (Box (wr.setCell ⟨g, 1, none⟩ (.int .i64 13)) w.heap.size 31 #[.int .i64 0, .slice none 0 0, .slice none 0 0, .slice none 0 0, .slice none 0 0, .slice none 0 0, .slice none 0 0, .slice none 0 0, .slice none 0 0]) := XI.out.rx.rb.far (p := ⟨g, 1, none⟩) (by simp; omega) _
                                    have HL : Hid (Below w.heap.size w (wr.setCell ⟨g, 1, none⟩ (.int .i64 13))) := HLow.out.setCell (p := ⟨g, 1, none⟩) (by have := HG.out; show w.heap.size ≤ g; omega) _
                                    clear HX XI HLow g0 g1 f1 HO
                                    generalize wr.setCell ⟨g, 1, none⟩ (.int .i64 13) = wy at *
                                    have g1 : wy.cell? ⟨g, 1, none⟩ = some (.int .i64 13) := HE.out.cell 1
                                    go_upto_region 74 with fail
                                    clear g1
                                    have HS0 := And.intro (box_drew HE.out) (box_drew HB.out)
                                    refine stage_region 6 (fun W => W.cell? ⟨g, 1, none⟩ = some (.int .i64 13) ∧ Box W g 77 #[.slice a1 b.length c1, .int .i64 13] ∧ Box W w.heap.size 31 #[.int .i64 0, .slice none 0 0, .slice none 0 0, .slice none 0 0, .slice none 0 0, .slice none 0 0, .slice none 0 0, .slice none 0 0, .slice none 0 0]) (by kernel_rfl) ?_
                                    have HS := HS0
                                    refine' stage_take (i := 0) _ rfl (by kernel_rfl) (by kernel_rfl) (by kernel_rfl) (by kernel_rfl) (fun _ _ _ h => h) ⟨HS.1.cell 1, HS⟩ _ (fun W hW => _) _
                                    rotate_left
                                    focus (go_simp; done)
                                    focus (obtain ⟨k1, X9⟩ := hW; go_simp; first | done | (with_reducible rfl))
                                    simp only [Act.put, List.getElem_toArray, List.getElem_cons_succ, List.getElem_cons_zero, List.setIfInBounds_toArray, List.set_cons_zero, List.set_cons_succ]
                                    refine' stage_take (i := 1) _ rfl (by kernel_rfl) (by kernel_rfl) (by kernel_rfl) (by kernel_rfl) (fun _ _ _ h => h) ⟨HS.1.cell 1, HS⟩ _ (fun W hW => _) _
                                    rotate_left
                                    focus (go_simp; done)
                                    focus (obtain ⟨k1, X9⟩ := hW; go_simp; first | done | (with_reducible rfl))
                                    simp only [Act.put, List.getElem_toArray, List.getElem_cons_succ, List.getElem_cons_zero, List.setIfInBounds_toArray, List.set_cons_zero, List.set_cons_succ]
                                    refine' stage_take (i := 2) _ rfl (by kernel_rfl) (by kernel_rfl) (by kernel_rfl) (by kernel_rfl) (fun _ _ _ h => h) ⟨HS.1.cell 1, HS⟩ _ (fun W hW => _) _
                                    rotate_left
                                    focus (go_simp; done)
                                    focus (obtain ⟨k1, X9⟩ := hW; go_simp; first | done | (with_reducible rfl))
                                    simp only [Act.put, List.getElem_toArray, List.getElem_cons_succ, List.getElem_cons_zero, List.setIfInBounds_toArray, List.set_cons_zero, List.set_cons_succ]
                                    refine' stage_take (i := 3) _ rfl (by kernel_rfl) (by kernel_rfl) (by kernel_rfl) (by kernel_rfl) (fun _ _ _ h => h) ⟨HS.1.cell 1, HS⟩ _ (fun W hW => _) _
                                    rotate_left
                                    focus (go_simp; done)
                                    focus (obtain ⟨k1, X9⟩ := hW; go_simp; first | done | (with_reducible rfl))
                                    simp only [Act.put, List.getElem_toArray, List.getElem_cons_succ, List.getElem_cons_zero, List.setIfInBounds_toArray, List.set_cons_zero, List.set_cons_succ]
                                    refine' stage_take (i := 4) _ rfl (by kernel_rfl) (by kernel_rfl) (by kernel_rfl) (by kernel_rfl) (fun _ _ _ h => h) ⟨HS.1.cell 1, HS⟩ _ (fun W hW => _) _
                                    rotate_left
                                    focus (go_simp; done)
                                    focus (obtain ⟨k1, X9⟩ := hW; go_simp; first | done | (with_reducible rfl))
                                    simp only [Act.put, List.getElem_toArray, List.getElem_cons_succ, List.getElem_cons_zero, List.setIfInBounds_toArray, List.set_cons_zero, List.set_cons_succ]
                                    refine stage_only (i := 5) rfl (by kernel_rfl) ?_ (fun K hK => ?_)
                                    focus (go_simp; done)
                                    refine wp_store_row 31 (.tmp 2) (.tmp 263) rfl w.heap.size #[.int .i64 0, .slice none 0 0, .slice none 0 0, .slice none 0 0, .slice none 0 0, .slice none 0 0, .slice none 0 0, .slice none 0 0, .slice none 0 0] rfl rfl 31 #[.int .i64 0, .slice none 0 0, .slice none 0 0, .slice none 0 0, .slice none 0 0, .slice none 0 0, .slice none 0 0, .slice none 0 0, .slice none 0 0] HS.2 (by kernel_rfl) rfl (by simp [Value.oneCell']) ?_
                                    replace HS := And.intro (HS.1.farRow (k := w.heap.size) (by omega) #[.int .i64 0, .slice none 0 0, .slice none 0 0, .slice none 0 0, .slice none 0 0, .slice none 0 0, .slice none 0 0, .slice none 0 0, .slice none 0 0]) (HS.2.row #[.int .i64 0, .slice none 0 0, .slice none 0 0, .slice none 0 0, .slice none 0 0, .slice none 0 0, .slice none 0 0, .slice none 0 0, .slice none 0 0])
                                    refine hK.out _ _ (fun _ => ⟨HS.1.cell 1, HS⟩) ?_
                                    clear hK K
                                    try simp only [Act.put, List.getElem_toArray, List.getElem_cons_succ, List.getElem_cons_zero, List.setIfInBounds_toArray, List.set_cons_zero, List.set_cons_succ]
                                    refine stage_only (i := 6) rfl (by kernel_rfl) ?_ (fun K hK => ?_)
                                    focus (go_simp; done)
                                    go_simp
                                    refine hK.out _ _ (fun h => absurd h (by decide)) ?_
                                    clear hK K
                                    try simp only [Act.put, List.getElem_toArray, List.getElem_cons_succ, List.getElem_cons_zero, List.setIfInBounds_toArray, List.set_cons_zero, List.set_cons_succ]
                                    refine stage_end (by kernel_rfl) ?_
                                    have HRB := Lib.hid HS.2
                                    have HLB := Lib.hid (below_setRow HL.out.drew (Nat.le_refl _) #[.int .i64 0, .slice none 0 0, .slice none 0 0, .slice none 0 0, .slice none 0 0, .slice none 0 0, .slice none 0 0, .slice none 0 0, .slice none 0 0])
                                    clear HS HS0 HE HB HL
                                    go_wp2_with fail
                                    refine bodyPost_ret (results_cell_slot (by rfl) _ _ HRB.out Tryz.underlying31 rfl (by kernel_rfl) rfl) rfl ⟨zeroS, [], ?_, ?_, ?_⟩
                                    · rw [HRes.out]; rfl
                                    · rw [HRes.out]; exact own_zero _ _
                                    · exact HLB.out
                                  · have hfit := HFit.out l b HQ.out
                                    have hHE := HEnd.out
                                    rw [HQ.out] at hHE
                                    have HD : Hid (res = if goodF l = true then (l, 0) else (ImgW.zeroLed, 43)) := by unfold Hid; rw [← hHE]; exact if_neg hr
                                    have G := Lib.hid (fun W h => rgood_calls s l us W h hfit)
                                    unfold ledV at G
                                    clear HEnd HQ HFit hHE hfit
                                    go_upto_region 71 with fail
                                    have c0 : wr.cell? ⟨gl, 0, none⟩ = some (.int .i64 l.day) := XI.out.rx.bx.cell 0
                                    have c1 : wr.cell? ⟨gl, 1, none⟩ = some (.slice s.a1 l.curs.length s.c1) := XI.out.rx.bx.cell 1
                                    have c2 : wr.cell? ⟨gl, 2, none⟩ = some (.slice s.a2 l.unders.length s.c2) := XI.out.rx.bx.cell 2
                                    have c3 : wr.cell? ⟨gl, 3, none⟩ = some (.slice s.a3 l.instrs.length s.c3) := XI.out.rx.bx.cell 3
                                    have c4 : wr.cell? ⟨gl, 4, none⟩ = some (.slice s.a4 l.accts.length s.c4) := XI.out.rx.bx.cell 4
                                    have c5 : wr.cell? ⟨gl, 5, none⟩ = some (.slice s.a5 l.poss.length s.c5) := XI.out.rx.bx.cell 5
                                    have c6 : wr.cell? ⟨gl, 6, none⟩ = some (.slice s.a6 l.orders.length s.c6) := XI.out.rx.bx.cell 6
                                    have c7 : wr.cell? ⟨gl, 7, none⟩ = some (.slice s.a7 l.avail.length s.c7) := XI.out.rx.bx.cell 7
                                    have c8 : wr.cell? ⟨gl, 8, none⟩ = some (.slice s.a8 l.locs.length s.c8) := XI.out.rx.bx.cell 8
                                    cases hg : goodF l with
                                    | false =>
                                      rw [hg] at G HD
                                      have HRes : Hid (res = (ImgW.zeroLed, 43)) := HD.out
                                      clear hg HD
                                      go_upto_region 72 with (go_at_call 29; refine (G.out _ HO.out.at_).mono ?_; rintro e w5 ⟨rfl, b5⟩)
                                      have HX5 := Lib.hid (HX.out.keep b5)
                                      have HB5 := Lib.hid (XI.out.rx.rb.keep b5)
                                      have HL5 := Lib.hid (HLow.out.trans (b5.mono HLow.out.size))
                                      clear c0 c1 c2 c3 c4 c5 c6 c7 c8 HX XI HLow g0 g1 f1 HO b5 G
                                      have g1 : w5.cell? ⟨g, 1, none⟩ = some (.int .i64 0) := HX5.out.cell 1
                                      have f1 : w5.frozen? ⟨g, 1, none⟩ = false := HX5.out.frozen 1
                                      go_upto_region 73 with fail
                                      have HE : Hid (Box (w5.setCell ⟨g, 1, none⟩ (.int .i64 43)) g 77 #[.slice a1 b.length c1, .int .i64 43]) := HX5.out.set 1 _
                                      have HB : Hid (Box (w5.setCell ⟨g, 1, none⟩ (.int .i64 43)) w.heap.size 31 #[.int .i64 0, .slice none 0 0, .slice none 0 0, .slice none 0 0, .slice none 0 0, .slice none 0 0, .slice none 0 0, .slice none 0 0, .slice none 0 0]) := HB5.out.far (p := ⟨g, 1, none⟩) (by simp; omega) _
                                      have HL : Hid (Below w.heap.size w (w5.setCell ⟨g, 1, none⟩ (.int .i64 43))) := HL5.out.setCell (p := ⟨g, 1, none⟩) (by have := HG.out; show w.heap.size ≤ g; omega) _
                                      clear HX5 HB5 HL5 g1 f1
                                      generalize w5.setCell ⟨g, 1, none⟩ (.int .i64 43) = wy at *
                                      have g1 : wy.cell? ⟨g, 1, none⟩ = some (.int .i64 43) := HE.out.cell 1
                                      go_upto_region 74 with fail
                                      clear g1
                                      have HS0 := And.intro (box_drew HE.out) (box_drew HB.out)
                                      refine stage_region 6 (fun W => W.cell? ⟨g, 1, none⟩ = some (.int .i64 43) ∧ Box W g 77 #[.slice a1 b.length c1, .int .i64 43] ∧ Box W w.heap.size 31 #[.int .i64 0, .slice none 0 0, .slice none 0 0, .slice none 0 0, .slice none 0 0, .slice none 0 0, .slice none 0 0, .slice none 0 0, .slice none 0 0]) (by kernel_rfl) ?_
                                      have HS := HS0
                                      refine' stage_take (i := 0) _ rfl (by kernel_rfl) (by kernel_rfl) (by kernel_rfl) (by kernel_rfl) (fun _ _ _ h => h) ⟨HS.1.cell 1, HS⟩ _ (fun W hW => _) _
                                      rotate_left
                                      focus (go_simp; done)
                                      focus (obtain ⟨k1, X9⟩ := hW; go_simp; first | done | (with_reducible rfl))
                                      simp only [Act.put, List.getElem_toArray, List.getElem_cons_succ, List.getElem_cons_zero, List.setIfInBounds_toArray, List.set_cons_zero, List.set_cons_succ]
                                      refine' stage_take (i := 1) _ rfl (by kernel_rfl) (by kernel_rfl) (by kernel_rfl) (by kernel_rfl) (fun _ _ _ h => h) ⟨HS.1.cell 1, HS⟩ _ (fun W hW => _) _
                                      rotate_left
                                      focus (go_simp; done)
                                      focus (obtain ⟨k1, X9⟩ := hW; go_simp; first | done | (with_reducible rfl))
                                      simp only [Act.put, List.getElem_toArray, List.getElem_cons_succ, List.getElem_cons_zero, List.setIfInBounds_toArray, List.set_cons_zero, List.set_cons_succ]
                                      refine' stage_take (i := 2) _ rfl (by kernel_rfl) (by kernel_rfl) (by kernel_rfl) (by kernel_rfl) (fun _ _ _ h => h) ⟨HS.1.cell 1, HS⟩ _ (fun W hW => _) _
                                      rotate_left
                                      focus (go_simp; done)
                                      focus (obtain ⟨k1, X9⟩ := hW; go_simp; first | done | (with_reducible rfl))
                                      simp only [Act.put, List.getElem_toArray, List.getElem_cons_succ, List.getElem_cons_zero, List.setIfInBounds_toArray, List.set_cons_zero, List.set_cons_succ]
                                      refine' stage_take (i := 3) _ rfl (by kernel_rfl) (by kernel_rfl) (by kernel_rfl) (by kernel_rfl) (fun _ _ _ h => h) ⟨HS.1.cell 1, HS⟩ _ (fun W hW => _) _
                                      rotate_left
                                      focus (go_simp; done)
                                      focus (obtain ⟨k1, X9⟩ := hW; go_simp; first | done | (with_reducible rfl))
                                      simp only [Act.put, List.getElem_toArray, List.getElem_cons_succ, List.getElem_cons_zero, List.setIfInBounds_toArray, List.set_cons_zero, List.set_cons_succ]
                                      refine' stage_take (i := 4) _ rfl (by kernel_rfl) (by kernel_rfl) (by kernel_rfl) (by kernel_rfl) (fun _ _ _ h => h) ⟨HS.1.cell 1, HS⟩ _ (fun W hW => _) _
                                      rotate_left
                                      focus (go_simp; done)
                                      focus (obtain ⟨k1, X9⟩ := hW; go_simp; first | done | (with_reducible rfl))
                                      simp only [Act.put, List.getElem_toArray, List.getElem_cons_succ, List.getElem_cons_zero, List.setIfInBounds_toArray, List.set_cons_zero, List.set_cons_succ]
                                      refine stage_only (i := 5) rfl (by kernel_rfl) ?_ (fun K hK => ?_)
                                      focus (go_simp; done)
                                      refine wp_store_row 31 (.tmp 2) (.tmp 263) rfl w.heap.size #[.int .i64 0, .slice none 0 0, .slice none 0 0, .slice none 0 0, .slice none 0 0, .slice none 0 0, .slice none 0 0, .slice none 0 0, .slice none 0 0] rfl rfl 31 #[.int .i64 0, .slice none 0 0, .slice none 0 0, .slice none 0 0, .slice none 0 0, .slice none 0 0, .slice none 0 0, .slice none 0 0, .slice none 0 0] HS.2 (by kernel_rfl) rfl (by simp [Value.oneCell']) ?_
                                      replace HS := And.intro (HS.1.farRow (k := w.heap.size) (by omega) #[.int .i64 0, .slice none 0 0, .slice none 0 0, .slice none 0 0, .slice none 0 0, .slice none 0 0, .slice none 0 0, .slice none 0 0, .slice none 0 0]) (HS.2.row #[.int .i64 0, .slice none 0 0, .slice none 0 0, .slice none 0 0, .slice none 0 0, .slice none 0 0, .slice none 0 0, .slice none 0 0, .slice none 0 0])
                                      refine hK.out _ _ (fun _ => ⟨HS.1.cell 1, HS⟩) ?_
                                      clear hK K
                                      try simp only [Act.put, List.getElem_toArray, List.getElem_cons_succ, List.getElem_cons_zero, List.setIfInBounds_toArray, List.set_cons_zero, List.set_cons_succ]
                                      refine stage_only (i := 6) rfl (by kernel_rfl) ?_ (fun K hK => ?_)
                                      focus (go_simp; done)
                                      go_simp
                                      refine hK.out _ _ (fun h => absurd h (by decide)) ?_
                                      clear hK K
                                      try simp only [Act.put, List.getElem_toArray, List.getElem_cons_succ, List.getElem_cons_zero, List.setIfInBounds_toArray, List.set_cons_zero, List.set_cons_succ]
                                      refine stage_end (by kernel_rfl) ?_
                                      have HRB := Lib.hid HS.2
                                      have HLB := Lib.hid (below_setRow HL.out.drew (Nat.le_refl _) #[.int .i64 0, .slice none 0 0, .slice none 0 0, .slice none 0 0, .slice none 0 0, .slice none 0 0, .slice none 0 0, .slice none 0 0, .slice none 0 0])
                                      clear HS HS0 HE HB HL
                                      go_wp2_with fail
                                      refine bodyPost_ret (results_cell_slot (by rfl) _ _ HRB.out Tryz.underlying31 rfl (by kernel_rfl) rfl) rfl ⟨zeroS, [], ?_, ?_, ?_⟩
                                      · rw [HRes.out]; rfl
                                      · rw [HRes.out]; exact own_zero _ _
                                      · exact HLB.out
                                    | true =>
                                      rw [hg] at G HD
                                      have HRes : Hid (res = (l, 0)) := HD.out
                                      clear hg HD
                                      go_upto_region 73 with (go_at_call 29; refine (G.out _ HO.out.at_).mono ?_; rintro e w5 ⟨rfl, b5⟩)
                                      have HX5 := Lib.hid (HX.out.keep b5)
                                      have HB5 := Lib.hid (XI.out.rx.rb.keep b5)
                                      have HI5 := Lib.hid (XI.out.rx.bx.keep b5)
                                      have HO5 := Lib.hid (HO.out.below b5)
                                      have HL5 := Lib.hid (HLow.out.trans (b5.mono HLow.out.size))
                                      clear c0 c1 c2 c3 c4 c5 c6 c7 c8 HX XI HLow g0 g1 f1 HO b5 G
                                      have g1 : w5.cell? ⟨g, 1, none⟩ = some (.int .i64 0) := HX5.out.cell 1
                                      go_upto_region 75 with fail
                                      clear g1
                                      go_wp2_with (first | ((with_reducible refine wpList_load_box rfl 31 (.tmp 5) rfl HI5.out Tryz.underlying31 ?_ ?_ ?_ ?_); (· rfl); (· kernel_rfl); (· rfl)) | ((with_reducible refine wpList_store_box rfl 31 (.tmp 2) (.tmp 268) rfl #[.int .i64 l.day, .slice s.a1 l.curs.length s.c1, .slice s.a2 l.unders.length s.c2, .slice s.a3 l.instrs.length s.c3, .slice s.a4 l.accts.length s.c4, .slice s.a5 l.poss.length s.c5, .slice s.a6 l.orders.length s.c6, .slice s.a7 l.avail.length s.c7, .slice s.a8 l.locs.length s.c8] HB5.out ?_ ?_ ?_ ?_ ?_ ?_); (· kernel_rfl); (· rfl); (· simp [Value.oneCell']); (· rfl); (· rfl)))
                                      refine bodyPost_ret (results_cell_slot (by rfl) _ _ (HB5.out.row _) Tryz.underlying31 rfl (by kernel_rfl) rfl) rfl ⟨s, us, ?_, ?_, ?_⟩
                                      · rw [HRes.out]; rfl
                                      · rw [HRes.out]; exact (HO5.out.other (grown_row w.heap.size #[.int .i64 l.day, .slice s.a1 l.curs.length s.c1, .slice s.a2 l.unders.length s.c2, .slice s.a3 l.instrs.length s.c3, .slice s.a4 l.accts.length s.c4, .slice s.a5 l.poss.length s.c5, .slice s.a6 l.orders.length s.c6, .slice s.a7 l.avail.length s.c7, .slice s.a8 l.locs.length s.c8]) (by omega)).mono (by omega)
                                      · exact below_setRow HL5.out (Nat.le_refl _) _
                                · have HRes : Hid (res = (ImgW.zeroLed, kk)) := by unfold Hid; rw [← HEnd.out, HQ.out]; rfl
                                  have HE := Lib.hid hx
                                  have HB := Lib.hid XI.out.rx.rb
                                  have HL := HLow
                                  have g1 : wr.cell? ⟨g, 1, none⟩ = some (.int .i64 kk) := hx.cell 1
                                  have hk1 : (kk != 0) = true := by simpa using hk
                                  clear HEnd HQ HFit hx XI HO HLow
                                  go_upto_region 74 with fail
                                  clear g1 hk hk1
                                  have HS0 := And.intro (box_drew HE.out) (box_drew HB.out)
                                  refine stage_region 6 (fun W => W.cell? ⟨g, 1, none⟩ = some (.int .i64 kk) ∧ Box W g 77 #[v, .int .i64 kk] ∧ Box W w.heap.size 31 #[.int .i64 0, .slice none 0 0, .slice none 0 0, .slice none 0 0, .slice none 0 0, .slice none 0 0, .slice none 0 0, .slice none 0 0, .slice none 0 0]) (by kernel_rfl) ?_
                                  have HS := HS0
                                  refine' stage_take (i := 0) _ rfl (by kernel_rfl) (by kernel_rfl) (by kernel_rfl) (by kernel_rfl) (fun _ _ _ h => h) ⟨HS.1.cell 1, HS⟩ _ (fun W hW => _) _
                                  rotate_left
                                  focus (go_simp; done)
                                  focus (obtain ⟨k1, X9⟩ := hW; go_simp; first | done | (with_reducible rfl))
                                  simp only [Act.put, List.getElem_toArray, List.getElem_cons_succ, List.getElem_cons_zero, List.setIfInBounds_toArray, List.set_cons_zero, List.set_cons_succ]
                                  refine' stage_take (i := 1) _ rfl (by kernel_rfl) (by kernel_rfl) (by kernel_rfl) (by kernel_rfl) (fun _ _ _ h => h) ⟨HS.1.cell 1, HS⟩ _ (fun W hW => _) _
                                  rotate_left
                                  focus (go_simp; done)
                                  focus (obtain ⟨k1, X9⟩ := hW; go_simp; first | done | (with_reducible rfl))
                                  simp only [Act.put, List.getElem_toArray, List.getElem_cons_succ, List.getElem_cons_zero, List.setIfInBounds_toArray, List.set_cons_zero, List.set_cons_succ]
                                  refine' stage_take (i := 2) _ rfl (by kernel_rfl) (by kernel_rfl) (by kernel_rfl) (by kernel_rfl) (fun _ _ _ h => h) ⟨HS.1.cell 1, HS⟩ _ (fun W hW => _) _
                                  rotate_left
                                  focus (go_simp; done)
                                  focus (obtain ⟨k1, X9⟩ := hW; go_simp; first | done | (with_reducible rfl))
                                  simp only [Act.put, List.getElem_toArray, List.getElem_cons_succ, List.getElem_cons_zero, List.setIfInBounds_toArray, List.set_cons_zero, List.set_cons_succ]
                                  refine' stage_take (i := 3) _ rfl (by kernel_rfl) (by kernel_rfl) (by kernel_rfl) (by kernel_rfl) (fun _ _ _ h => h) ⟨HS.1.cell 1, HS⟩ _ (fun W hW => _) _
                                  rotate_left
                                  focus (go_simp; done)
                                  focus (obtain ⟨k1, X9⟩ := hW; go_simp; first | done | (with_reducible rfl))
                                  simp only [Act.put, List.getElem_toArray, List.getElem_cons_succ, List.getElem_cons_zero, List.setIfInBounds_toArray, List.set_cons_zero, List.set_cons_succ]
                                  refine' stage_take (i := 4) _ rfl (by kernel_rfl) (by kernel_rfl) (by kernel_rfl) (by kernel_rfl) (fun _ _ _ h => h) ⟨HS.1.cell 1, HS⟩ _ (fun W hW => _) _
                                  rotate_left
                                  focus (go_simp; done)
                                  focus (obtain ⟨k1, X9⟩ := hW; go_simp; first | done | (with_reducible rfl))
                                  simp only [Act.put, List.getElem_toArray, List.getElem_cons_succ, List.getElem_cons_zero, List.setIfInBounds_toArray, List.set_cons_zero, List.set_cons_succ]
                                  refine stage_only (i := 5) rfl (by kernel_rfl) ?_ (fun K hK => ?_)
                                  focus (go_simp; done)
                                  refine wp_store_row 31 (.tmp 2) (.tmp 263) rfl w.heap.size #[.int .i64 0, .slice none 0 0, .slice none 0 0, .slice none 0 0, .slice none 0 0, .slice none 0 0, .slice none 0 0, .slice none 0 0, .slice none 0 0] rfl rfl 31 #[.int .i64 0, .slice none 0 0, .slice none 0 0, .slice none 0 0, .slice none 0 0, .slice none 0 0, .slice none 0 0, .slice none 0 0, .slice none 0 0] HS.2 (by kernel_rfl) rfl (by simp [Value.oneCell']) ?_
                                  replace HS := And.intro (HS.1.farRow (k := w.heap.size) (by omega) #[.int .i64 0, .slice none 0 0, .slice none 0 0, .slice none 0 0, .slice none 0 0, .slice none 0 0, .slice none 0 0, .slice none 0 0, .slice none 0 0]) (HS.2.row #[.int .i64 0, .slice none 0 0, .slice none 0 0, .slice none 0 0, .slice none 0 0, .slice none 0 0, .slice none 0 0, .slice none 0 0, .slice none 0 0])
                                  refine hK.out _ _ (fun _ => ⟨HS.1.cell 1, HS⟩) ?_
                                  clear hK K
                                  try simp only [Act.put, List.getElem_toArray, List.getElem_cons_succ, List.getElem_cons_zero, List.setIfInBounds_toArray, List.set_cons_zero, List.set_cons_succ]
                                  refine stage_only (i := 6) rfl (by kernel_rfl) ?_ (fun K hK => ?_)
                                  focus (go_simp; done)
                                  go_simp
                                  refine hK.out _ _ (fun h => absurd h (by decide)) ?_
                                  clear hK K
                                  try simp only [Act.put, List.getElem_toArray, List.getElem_cons_succ, List.getElem_cons_zero, List.setIfInBounds_toArray, List.set_cons_zero, List.set_cons_succ]
                                  refine stage_end (by kernel_rfl) ?_
                                  have HRB := Lib.hid HS.2
                                  have HLB := Lib.hid (below_setRow HL.out.drew (Nat.le_refl _) #[.int .i64 0, .slice none 0 0, .slice none 0 0, .slice none 0 0, .slice none 0 0, .slice none 0 0, .slice none 0 0, .slice none 0 0, .slice none 0 0])
                                  clear HS HS0 HE HB HL
                                  go_wp2_with fail
                                  refine bodyPost_ret (results_cell_slot (by rfl) _ _ HRB.out Tryz.underlying31 rfl (by kernel_rfl) rfl) rfl ⟨zeroS, [], ?_, ?_, ?_⟩
                                  · rw [HRes.out]; rfl
                                  · rw [HRes.out]; exact own_zero _ _
                                  · exact HLB.out
end Go.Proofs.YtocjfjikkdpfdaaGreatDoor.ImgW
namespace Go.Proofs.YtocjfjikkdpfdaaGreatDoor.ImgW
open Go.RowKit Go.Proofs.YtocjfjikkdpfdaaGreatDoor.Bas Go.Proofs.YtocjfjikkdpfdaaGreatDoor.LedM Go.Proofs.YtocjfjikkdpfdaaGreatDoor.LedW

/-- the document's boxes -/
structure RQ (w W : World) (g : Nat) (st : ST) : Prop where
  gr : w.grownBy W (some g)
  rb : Box W w.heap.size 33 #[.int .i64 0, .int .i64 0, .int .i64 0, .int .i64 0, .int .i64 0, .int .i64 0, .int .i64 0, .int .i64 0, .int .i64 0, .int .i64 0, .bool false, .string ⟨#[]⟩]
  rd : RdS W g st
theorem RQ.call {w A B : World} {g : Nat} {st st' : ST} (h : RQ w A g st) (hg : w.heap.size + 1 = g) (k : A.grownBy B (some g)) (rd : RdS B g st') : RQ w B g st' := ⟨h.gr.trans k, box_grown h.rb k (by omega), rd⟩
theorem RQ.beside {w A B : World} {g : Nat} {st : ST} (h : RQ w A g st) (hg : w.heap.size + 1 = g) {M : Nat} (b : Below M A B) (hM : g < M) : RQ w B g st := ⟨grown_of_below h.gr b (by omega), h.rb.below b (by omega), rds_below h.rd b hM⟩
set_option maxRecDepth 100000 in
set_option maxHeartbeats 16000000 in
theorem rreadevent_calls (bs : List UInt8) (a : Option Addr) (cap : Nat) (w : World) (hat : At w a (u8s bs)) (hl : bs.length ≤ cap) (hm : cap ≤ maxLen) :
    Calls Tryz.prog 17 #[.slice a bs.length cap] w fun e w' => e = .returned (.tuple #[evV (readE bs).1, .int .i64 (readE bs).2]) ∧ Below w.heap.size w w' := by
  obtain ⟨q, hq⟩ : ∃ q, q = sE (.ok bs) := ⟨_, rfl⟩
  have HEnd : Hid (endE q = readE bs) := by unfold Hid; rw [hq]; exact endE_read bs
  unfold sE at hq
  have E0 := Lib.hid hq
  clear hq
  generalize readE bs = res at HEnd ⊢
  have n2 : Box ((w.alloc (.cells #[.int .i64 0, .int .i64 0, .int .i64 0, .int .i64 0, .int .i64 0, .int .i64 0, .int .i64 0, .int .i64 0, .int .i64 0, .int .i64 0, .bool false, .string ⟨#[]⟩] 33)).alloc (.cells #[.slice a bs.length cap, .int .i64 0] 77)) w.heap.size 33 #[.int .i64 0, .int .i64 0, .int .i64 0, .int .i64 0, .int .i64 0, .int .i64 0, .int .i64 0, .int .i64 0, .int .i64 0, .int .i64 0, .bool false, .string ⟨#[]⟩] := (Box.new w _ _).alloc _
  have n1 : RdS ((w.alloc (.cells #[.int .i64 0, .int .i64 0, .int .i64 0, .int .i64 0, .int .i64 0, .int .i64 0, .int .i64 0, .int .i64 0, .int .i64 0, .int .i64 0, .bool false, .string ⟨#[]⟩] 33)).alloc (.cells #[.slice a bs.length cap, .int .i64 0] 77)) (w.heap.size + 1) (.ok bs) := by
    have hb := Box.new (w.alloc (.cells #[.int .i64 0, .int .i64 0, .int .i64 0, .int .i64 0, .int .i64 0, .int .i64 0, .int .i64 0, .int .i64 0, .int .i64 0, .int .i64 0, .bool false, .string ⟨#[]⟩] 33)) 77 #[.slice a bs.length cap, .int .i64 0]
    rw [World.size_alloc] at hb
    have low : Below w.heap.size w ((w.alloc (.cells #[.int .i64 0, .int .i64 0, .int .i64 0, .int .i64 0, .int .i64 0, .int .i64 0, .int .i64 0, .int .i64 0, .int .i64 0, .int .i64 0, .bool false, .string ⟨#[]⟩] 33)).alloc (.cells #[.slice a bs.length cap, .int .i64 0] 77)) := ((Below.refl _ _).alloc (Nat.le_refl _) _).alloc (by rw [World.size_alloc]; omega) _
    by_cases h0 : bs = []
    · exact ⟨.inl ⟨bs, a, cap, rfl, hb, by rw [h0]; exact At.nil _ _, hl, hm, fun _ _ h => absurd h0 h⟩⟩
    · refine ⟨.inl ⟨bs, a, cap, rfl, hb, hat.keep low, hl, hm, fun p hp _ => ?_⟩⟩
      obtain ⟨b, off, s⟩ := p
      have := hat.lt b off s hp (by simpa [u8s] using h0)
      show b < _
      omega
  have GW : w.grownBy ((w.alloc (.cells #[.int .i64 0, .int .i64 0, .int .i64 0, .int .i64 0, .int .i64 0, .int .i64 0, .int .i64 0, .int .i64 0, .int .i64 0, .int .i64 0, .bool false, .string ⟨#[]⟩] 33)).alloc (.cells #[.slice a bs.length cap, .int .i64 0] 77)) (some (w.heap.size + 1)) := (World.grownBy_alloc _ _ _).trans (World.grownBy_alloc _ _ _)
  have X0 : Hid (RQ w ((w.alloc (.cells #[.int .i64 0, .int .i64 0, .int .i64 0, .int .i64 0, .int .i64 0, .int .i64 0, .int .i64 0, .int .i64 0, .int .i64 0, .int .i64 0, .bool false, .string ⟨#[]⟩] 33)).alloc (.cells #[.slice a bs.length cap, .int .i64 0] 77)) (w.heap.size + 1) (.ok bs)) := ⟨GW, n2, n1⟩
  clear hat hl hm n1 n2 GW
  unfold evV
  go_enter Tryz.func17, Tryz.ntmps17
  go_upto_region 2 with fail
  generalize ((w.alloc (.cells #[.int .i64 0, .int .i64 0, .int .i64 0, .int .i64 0, .int .i64 0, .int .i64 0, .int .i64 0, .int .i64 0, .int .i64 0, .int .i64 0, .bool false, .string ⟨#[]⟩] 33)).alloc (.cells #[.slice a bs.length cap, .int .i64 0] 77)) = w0 at *
  obtain ⟨g, hg⟩ : ∃ g, w.heap.size + 1 = g := ⟨_, rfl⟩
  simp only [hg] at X0 ⊢
  have HG := Lib.hid hg
  clear hg
  go_upto_region 3 with (first | (go_at_call 33; refine (rcount_rd 16 (by decide) g _ _ X0.out.rd).mono ?_; rintro e w1 ⟨x0, st1, hs, rfl, gg, rd, y1, y2⟩; have X1 := Lib.hid (X0.out.call HG.out gg rd); have E1 := Lib.hid (E0.out.trans (stp_eq hs)); clear hs gg rd; have HBR := Box.new w1 33 #[.int .i64 0, .int .i64 0, .int .i64 0, .int .i64 0, .int .i64 0, .int .i64 0, .int .i64 0, .int .i64 0, .int .i64 0, .int .i64 0, .bool false, .string ⟨#[]⟩]) | ((with_reducible refine wpList_store_box rfl 33 (.tmp 5) (.tmp 11) rfl #[.int .i64 x0, .int .i64 0, .int .i64 0, .int .i64 0, .int .i64 0, .int .i64 0, .int .i64 0, .int .i64 0, .int .i64 0, .int .i64 0, .bool false, .string ⟨#[]⟩] HBR ?_ ?_ ?_ ?_ ?_ ?_); (· kernel_rfl); (· rfl); (· simp [Value.oneCell']); (· rfl); (· rfl)))
  have bq : Below w1.heap.size w1 ((w1.alloc (.cells #[.int .i64 0, .int .i64 0, .int .i64 0, .int .i64 0, .int .i64 0, .int .i64 0, .int .i64 0, .int .i64 0, .int .i64 0, .int .i64 0, .bool false, .string ⟨#[]⟩] 33)).setRow w1.heap.size #[.int .i64 x0, .int .i64 0, .int .i64 0, .int .i64 0, .int .i64 0, .int .i64 0, .int .i64 0, .int .i64 0, .int .i64 0, .int .i64 0, .bool false, .string ⟨#[]⟩]) := below_setRow ((Below.refl _ _).alloc (Nat.le_refl _) _) (Nat.le_refl _) _
  have hga : g < w1.heap.size := rds_lt X1.out.rd
  have XQ := Lib.hid (X1.out.beside HG.out bq hga)
  have B1 := Lib.hid (HBR.row #[.int .i64 x0, .int .i64 0, .int .i64 0, .int .i64 0, .int .i64 0, .int .i64 0, .int .i64 0, .int .i64 0, .int .i64 0, .int .i64 0, .bool false, .string ⟨#[]⟩])
  clear bq X1 HBR X0 E0
  generalize (w1.alloc (.cells #[.int .i64 0, .int .i64 0, .int .i64 0, .int .i64 0, .int .i64 0, .int .i64 0, .int .i64 0, .int .i64 0, .int .i64 0, .int .i64 0, .bool false, .string ⟨#[]⟩] 33)).setRow w1.heap.size #[.int .i64 x0, .int .i64 0, .int .i64 0, .int .i64 0, .int .i64 0, .int .i64 0, .int .i64 0, .int .i64 0, .int .i64 0, .int .i64 0, .bool false, .string ⟨#[]⟩] = wq at *
  generalize w1.heap.size = ga at *
  have X1 := XQ
  clear XQ
  go_upto_region 4 with (go_at_call 32; refine (rnumber_rd g _ _ X1.out.rd).mono ?_; rintro e w2 ⟨x1, st2, hs, rfl, gg, rd, d1⟩; have X2 := Lib.hid (X1.out.call HG.out gg rd); have E2 := Lib.hid (E1.out.trans (stp_eq hs)); have B2 := Lib.hid (box_grown B1.out gg (by omega)); have ck : w2.cell? ⟨ga, 1, none⟩ = some (.int .i64 0) := B2.out.cell 1; have fk : w2.frozen? ⟨ga, 1, none⟩ = false := B2.out.frozen 1; clear hs gg rd)
  change Code.wp _ _ _ _ (w2.setCell ⟨ga, 1, none⟩ (.int .i64 x1))
  have XQ := Lib.hid (X2.out.beside HG.out ((Below.refl _ _).setCell (p := ⟨ga, 1, none⟩) (Nat.le_refl _) (.int .i64 x1)) hga)
  have BQ : Hid (Box (w2.setCell ⟨ga, 1, none⟩ (.int .i64 x1)) ga 33 #[.int .i64 x0, .int .i64 x1, .int .i64 0, .int .i64 0, .int .i64 0, .int .i64 0, .int .i64 0, .int .i64 0, .int .i64 0, .int .i64 0, .bool false, .string ⟨#[]⟩]) := B2.out.set 1 (.int .i64 x1)
  clear ck fk X2 B2 X1 B1 E1
  generalize w2.setCell ⟨ga, 1, none⟩ (.int .i64 x1) = wq at *
  have X2 := XQ
  have B2 := BQ
  clear XQ BQ
  go_upto_region 5 with (go_at_call 32; refine (rnumber_rd g _ _ X2.out.rd).mono ?_; rintro e w3 ⟨x2, st3, hs, rfl, gg, rd, d2⟩; have X3 := Lib.hid (X2.out.call HG.out gg rd); have E3 := Lib.hid (E2.out.trans (stp_eq hs)); have B3 := Lib.hid (box_grown B2.out gg (by omega)); have ck : w3.cell? ⟨ga, 2, none⟩ = some (.int .i64 0) := B3.out.cell 2; have fk : w3.frozen? ⟨ga, 2, none⟩ = false := B3.out.frozen 2; clear hs gg rd)
  change Code.wp _ _ _ _ (w3.setCell ⟨ga, 2, none⟩ (.int .i64 x2))
  have XQ := Lib.hid (X3.out.beside HG.out ((Below.refl _ _).setCell (p := ⟨ga, 2, none⟩) (Nat.le_refl _) (.int .i64 x2)) hga)
  have BQ : Hid (Box (w3.setCell ⟨ga, 2, none⟩ (.int .i64 x2)) ga 33 #[.int .i64 x0, .int .i64 x1, .int .i64 x2, .int .i64 0, .int .i64 0, .int .i64 0, .int .i64 0, .int .i64 0, .int .i64 0, .int .i64 0, .bool false, .string ⟨#[]⟩]) := B3.out.set 2 (.int .i64 x2)
  clear ck fk X3 B3 X2 B2 E2
  generalize w3.setCell ⟨ga, 2, none⟩ (.int .i64 x2) = wq at *
  have X3 := XQ
  have B3 := BQ
  clear XQ BQ
  go_upto_region 6 with (go_at_call 32; refine (rnumber_rd g _ _ X3.out.rd).mono ?_; rintro e w4 ⟨x3, st4, hs, rfl, gg, rd, d3⟩; have X4 := Lib.hid (X3.out.call HG.out gg rd); have E4 := Lib.hid (E3.out.trans (stp_eq hs)); have B4 := Lib.hid (box_grown B3.out gg (by omega)); have ck : w4.cell? ⟨ga, 3, none⟩ = some (.int .i64 0) := B4.out.cell 3; have fk : w4.frozen? ⟨ga, 3, none⟩ = false := B4.out.frozen 3; clear hs gg rd)
  change Code.wp _ _ _ _ (w4.setCell ⟨ga, 3, none⟩ (.int .i64 x3))
  have XQ := Lib.hid (X4.out.beside HG.out ((Below.refl _ _).setCell (p := ⟨ga, 3, none⟩) (Nat.le_refl _) (.int .i64 x3)) hga)
  have BQ : Hid (Box (w4.setCell ⟨ga, 3, none⟩ (.int .i64 x3)) ga 33 #[.int .i64 x0, .int .i64 x1, .int .i64 x2, .int .i64 x3, .int .i64 0, .int .i64 0, .int .i64 0, .int .i64 0, .int .i64 0, .int .i64 0, .bool false, .string ⟨#[]⟩]) := B4.out.set 3 (.int .i64 x3)
  clear ck fk X4 B4 X3 B3 E3
  generalize w4.setCell ⟨ga, 3, none⟩ (.int .i64 x3) = wq at *
  have X4 := XQ
  have B4 := BQ
  clear XQ BQ
  go_upto_region 7 with (go_at_call 32; refine (rnumber_rd g _ _ X4.out.rd).mono ?_; rintro e w5 ⟨x4, st5, hs, rfl, gg, rd, d4⟩; have X5 := Lib.hid (X4.out.call HG.out gg rd); have E5 := Lib.hid (E4.out.trans (stp_eq hs)); have B5 := Lib.hid (box_grown B4.out gg (by omega)); have ck : w5.cell? ⟨ga, 4, none⟩ = some (.int .i64 0) := B5.out.cell 4; have fk : w5.frozen? ⟨ga, 4, none⟩ = false := B5.out.frozen 4; clear hs gg rd)
  change Code.wp _ _ _ _ (w5.setCell ⟨ga, 4, none⟩ (.int .i64 x4))
  have XQ := Lib.hid (X5.out.beside HG.out ((Below.refl _ _).setCell (p := ⟨ga, 4, none⟩) (Nat.le_refl _) (.int .i64 x4)) hga)
  have BQ : Hid (Box (w5.setCell ⟨ga, 4, none⟩ (.int .i64 x4)) ga 33 #[.int .i64 x0, .int .i64 x1, .int .i64 x2, .int .i64 x3, .int .i64 x4, .int .i64 0, .int .i64 0, .int .i64 0, .int .i64 0, .int .i64 0, .bool false, .string ⟨#[]⟩]) := B5.out.set 4 (.int .i64 x4)
  clear ck fk X5 B5 X4 B4 E4
  generalize w5.setCell ⟨ga, 4, none⟩ (.int .i64 x4) = wq at *
  have X5 := XQ
  have B5 := BQ
  clear XQ BQ
  go_upto_region 8 with (go_at_call 32; refine (rnumber_rd g _ _ X5.out.rd).mono ?_; rintro e w6 ⟨x5, st6, hs, rfl, gg, rd, d5⟩; have X6 := Lib.hid (X5.out.call HG.out gg rd); have E6 := Lib.hid (E5.out.trans (stp_eq hs)); have B6 := Lib.hid (box_grown B5.out gg (by omega)); have ck : w6.cell? ⟨ga, 5, none⟩ = some (.int .i64 0) := B6.out.cell 5; have fk : w6.frozen? ⟨ga, 5, none⟩ = false := B6.out.frozen 5; clear hs gg rd)
  change Code.wp _ _ _ _ (w6.setCell ⟨ga, 5, none⟩ (.int .i64 x5))
  have XQ := Lib.hid (X6.out.beside HG.out ((Below.refl _ _).setCell (p := ⟨ga, 5, none⟩) (Nat.le_refl _) (.int .i64 x5)) hga)
  have BQ : Hid (Box (w6.setCell ⟨ga, 5, none⟩ (.int .i64 x5)) ga 33 #[.int .i64 x0, .int .i64 x1, .int .i64 x2, .int .i64 x3, .int .i64 x4, .int .i64 x5, .int .i64 0, .int .i64 0, .int .i64 0, .int .i64 0, .bool false, .string ⟨#[]⟩]) := B6.out.set 5 (.int .i64 x5)
  clear ck fk X6 B6 X5 B5 E5
  generalize w6.setCell ⟨ga, 5, none⟩ (.int .i64 x5) = wq at *
  have X6 := XQ
  have B6 := BQ
  clear XQ BQ
  go_upto_region 9 with (go_at_call 32; refine (rnumber_rd g _ _ X6.out.rd).mono ?_; rintro e w7 ⟨x6, st7, hs, rfl, gg, rd, d6⟩; have X7 := Lib.hid (X6.out.call HG.out gg rd); have E7 := Lib.hid (E6.out.trans (stp_eq hs)); have B7 := Lib.hid (box_grown B6.out gg (by omega)); have ck : w7.cell? ⟨ga, 6, none⟩ = some (.int .i64 0) := B7.out.cell 6; have fk : w7.frozen? ⟨ga, 6, none⟩ = false := B7.out.frozen 6; clear hs gg rd)
  change Code.wp _ _ _ _ (w7.setCell ⟨ga, 6, none⟩ (.int .i64 x6))
  have XQ := Lib.hid (X7.out.beside HG.out ((Below.refl _ _).setCell (p := ⟨ga, 6, none⟩) (Nat.le_refl _) (.int .i64 x6)) hga)
  have BQ : Hid (Box (w7.setCell ⟨ga, 6, none⟩ (.int .i64 x6)) ga 33 #[.int .i64 x0, .int .i64 x1, .int .i64 x2, .int .i64 x3, .int .i64 x4, .int .i64 x5, .int .i64 x6, .int .i64 0, .int .i64 0, .int .i64 0, .bool false, .string ⟨#[]⟩]) := B7.out.set 6 (.int .i64 x6)
  clear ck fk X7 B7 X6 B6 E6
  generalize w7.setCell ⟨ga, 6, none⟩ (.int .i64 x6) = wq at *
  have X7 := XQ
  have B7 := BQ
  clear XQ BQ
  go_upto_region 10 with (go_at_call 32; refine (rnumber_rd g _ _ X7.out.rd).mono ?_; rintro e w8 ⟨x7, st8, hs, rfl, gg, rd, d7⟩; have X8 := Lib.hid (X7.out.call HG.out gg rd); have E8 := Lib.hid (E7.out.trans (stp_eq hs)); have B8 := Lib.hid (box_grown B7.out gg (by omega)); have ck : w8.cell? ⟨ga, 7, none⟩ = some (.int .i64 0) := B8.out.cell 7; have fk : w8.frozen? ⟨ga, 7, none⟩ = false := B8.out.frozen 7; clear hs gg rd)
  change Code.wp _ _ _ _ (w8.setCell ⟨ga, 7, none⟩ (.int .i64 x7))
  have XQ := Lib.hid (X8.out.beside HG.out ((Below.refl _ _).setCell (p := ⟨ga, 7, none⟩) (Nat.le_refl _) (.int .i64 x7)) hga)
  have BQ : Hid (Box (w8.setCell ⟨ga, 7, none⟩ (.int .i64 x7)) ga 33 #[.int .i64 x0, .int .i64 x1, .int .i64 x2, .int .i64 x3, .int .i64 x4, .int .i64 x5, .int .i64 x6, .int .i64 x7, .int .i64 0, .int .i64 0, .bool false, .string ⟨#[]⟩]) := B8.out.set 7 (.int .i64 x7)
  clear ck fk X8 B8 X7 B7 E7
  generalize w8.setCell ⟨ga, 7, none⟩ (.int .i64 x7) = wq at *
  have X8 := XQ
  have B8 := BQ
  clear XQ BQ
  go_upto_region 11 with (go_at_call 32; refine (rnumber_rd g _ _ X8.out.rd).mono ?_; rintro e w9 ⟨x8, st9, hs, rfl, gg, rd, d8⟩; have X9 := Lib.hid (X8.out.call HG.out gg rd); have E9 := Lib.hid (E8.out.trans (stp_eq hs)); have B9 := Lib.hid (box_grown B8.out gg (by omega)); have ck : w9.cell? ⟨ga, 8, none⟩ = some (.int .i64 0) := B9.out.cell 8; have fk : w9.frozen? ⟨ga, 8, none⟩ = false := B9.out.frozen 8; clear hs gg rd)
  change Code.wp _ _ _ _ (w9.setCell ⟨ga, 8, none⟩ (.int .i64 x8))
  have XQ := Lib.hid (X9.out.beside HG.out ((Below.refl _ _).setCell (p := ⟨ga, 8, none⟩) (Nat.le_refl _) (.int .i64 x8)) hga)
  have BQ : Hid (Box (w9.setCell ⟨ga, 8, none⟩ (.int .i64 x8)) ga 33 #[.int .i64 x0, .int .i64 x1, .int .i64 x2, .int .i64 x3, .int .i64 x4, .int .i64 x5, .int .i64 x6, .int .i64 x7, .int .i64 x8, .int .i64 0, .bool false, .string ⟨#[]⟩]) := B9.out.set 8 (.int .i64 x8)
  clear ck fk X9 B9 X8 B8 E8
  generalize w9.setCell ⟨ga, 8, none⟩ (.int .i64 x8) = wq at *
  have X9 := XQ
  have B9 := BQ
  clear XQ BQ
  go_upto_region 12 with (go_at_call 32; refine (rnumber_rd g _ _ X9.out.rd).mono ?_; rintro e w10 ⟨x9, st10, hs, rfl, gg, rd, d9⟩; have X10 := Lib.hid (X9.out.call HG.out gg rd); have E10 := Lib.hid (E9.out.trans (stp_eq hs)); have B10 := Lib.hid (box_grown B9.out gg (by omega)); have ck : w10.cell? ⟨ga, 9, none⟩ = some (.int .i64 0) := B10.out.cell 9; have fk : w10.frozen? ⟨ga, 9, none⟩ = false := B10.out.frozen 9; clear hs gg rd)
  change Code.wp _ _ _ _ (w10.setCell ⟨ga, 9, none⟩ (.int .i64 x9))
  have XQ := Lib.hid (X10.out.beside HG.out ((Below.refl _ _).setCell (p := ⟨ga, 9, none⟩) (Nat.le_refl _) (.int .i64 x9)) hga)
  have BQ : Hid (Box (w10.setCell ⟨ga, 9, none⟩ (.int .i64 x9)) ga 33 #[.int .i64 x0, .int .i64 x1, .int .i64 x2, .int .i64 x3, .int .i64 x4, .int .i64 x5, .int .i64 x6, .int .i64 x7, .int .i64 x8, .int .i64 x9, .bool false, .string ⟨#[]⟩]) := B10.out.set 9 (.int .i64 x9)
  clear ck fk X10 B10 X9 B9 E9
  generalize w10.setCell ⟨ga, 9, none⟩ (.int .i64 x9) = wq at *
  have X10 := XQ
  have B10 := BQ
  clear XQ BQ
  go_upto_region 13 with (go_at_call 33; refine (rcount_rd 1 (by decide) g _ _ X10.out.rd).mono ?_; rintro e w11 ⟨n10, st11, hs, rfl, gg, rd, y3, y4⟩; have X11 := Lib.hid (X10.out.call HG.out gg rd); have E11 := Lib.hid (E10.out.trans (stp_eq (sB_of hs))); have B11 := Lib.hid (box_grown B10.out gg (by omega)); have ck : w11.cell? ⟨ga, 10, none⟩ = some (.bool false) := B11.out.cell 10; have fk : w11.frozen? ⟨ga, 10, none⟩ = false := B11.out.frozen 10; clear hs gg rd)
  change Code.wp _ _ _ _ (w11.setCell ⟨ga, 10, none⟩ (.bool (decide (n10 = 1))))
  have XQ := Lib.hid (X11.out.beside HG.out ((Below.refl _ _).setCell (p := ⟨ga, 10, none⟩) (Nat.le_refl _) (.bool (decide (n10 = 1)))) hga)
  have BQ : Hid (Box (w11.setCell ⟨ga, 10, none⟩ (.bool (decide (n10 = 1)))) ga 33 #[.int .i64 x0, .int .i64 x1, .int .i64 x2, .int .i64 x3, .int .i64 x4, .int .i64 x5, .int .i64 x6, .int .i64 x7, .int .i64 x8, .int .i64 x9, .bool (decide (n10 = 1)), .string ⟨#[]⟩]) := B11.out.set 10 (.bool (decide (n10 = 1)))
  clear ck fk X11 B11 X10 B10 E10
  generalize w11.setCell ⟨ga, 10, none⟩ (.bool (decide (n10 = 1))) = wq at *
  have X11 := XQ
  have B11 := BQ
  clear XQ BQ
  go_upto_region 14 with (go_at_call 34; refine (rtext_rd g _ _ X11.out.rd).mono ?_; rintro e w12 ⟨x11, st12, hs, rfl, gg, rd⟩; have X12 := Lib.hid (X11.out.call HG.out gg rd); have E12 := Lib.hid (E11.out.trans (stp_eq hs)); have B12 := Lib.hid (box_grown B11.out gg (by omega)); have ck : w12.cell? ⟨ga, 11, none⟩ = some (.string ⟨#[]⟩) := B12.out.cell 11; have fk : w12.frozen? ⟨ga, 11, none⟩ = false := B12.out.frozen 11; clear hs gg rd)
  change Code.wp _ _ _ _ (w12.setCell ⟨ga, 11, none⟩ (.string ⟨x11.toArray⟩))
  have XQ := Lib.hid (X12.out.beside HG.out ((Below.refl _ _).setCell (p := ⟨ga, 11, none⟩) (Nat.le_refl _) (.string ⟨x11.toArray⟩)) hga)
  have BQ : Hid (Box (w12.setCell ⟨ga, 11, none⟩ (.string ⟨x11.toArray⟩)) ga 33 #[.int .i64 x0, .int .i64 x1, .int .i64 x2, .int .i64 x3, .int .i64 x4, .int .i64 x5, .int .i64 x6, .int .i64 x7, .int .i64 x8, .int .i64 x9, .bool (decide (n10 = 1)), .string ⟨x11.toArray⟩]) := B12.out.set 11 (.string ⟨x11.toArray⟩)
  clear ck fk X12 B12 X11 B11 E11
  generalize w12.setCell ⟨ga, 11, none⟩ (.string ⟨x11.toArray⟩) = wq at *
  have X12 := XQ
  have B12 := BQ
  clear XQ BQ
  have HQ : Hid (q = ((⟨x0, x1, x2, x3, x4, x5, x6, x7, x8, x9, (decide (n10 = 1)), x11⟩ : EvR), st12)) := E12
  have HLow := Lib.hid (grown_below (B := w.heap.size) X12.out.gr (by have := HG.out; omega) (Nat.le_refl _))
  have a0 : wq.cell? ⟨ga, 0, none⟩ = some (.int .i64 x0) := B12.out.cell 0
  clear E12
  rcases X12.out.rd.ex with ⟨b, a1, c1, rfl, hx, _, _, _, _⟩ | ⟨kk, v, rfl, hk, hx⟩
  · have g0 : wq.cell? ⟨g, 0, none⟩ = some (.slice a1 b.length c1) := hx.cell 0
    have g1 : wq.cell? ⟨g, 1, none⟩ = some (.int .i64 0) := hx.cell 1
    have f1 : wq.frozen? ⟨g, 1, none⟩ = false := hx.frozen 1
    have HX := Lib.hid hx
    have hHE := HEnd.out
    rw [HQ.out] at hHE
    clear hx HEnd HQ
    by_cases hk0 : x0 = 0
    · have HRes : Hid (res = (zeroE, 11)) := by unfold Hid; rw [← hHE]; exact if_pos hk0
      subst hk0
      clear hHE
      go_upto_region 16 with fail
      have HE : Hid (Box (wq.setCell ⟨g, 1, none⟩ (.int .i64 11)) g 77 #[.slice a1 b.length c1, .int .i64 11]) := HX.out.set 1 _
      have HB : Hid (Box (wq.setCell ⟨g, 1, none⟩ (.int .i64 11)) w.heap.size 33 #[.int .i64 0, .int .i64 0, .int .i64 0, .int .i64 0, .int .i64 0, .int .i64 0, .int .i64 0, .int .i64 0, .int .i64 0, .int .i64 0, .bool false, .string ⟨#[]⟩]) := X12.out.rb.far (p := ⟨g, 1, none⟩) (by have := HG.out; simp; omega) _
      have HL : Hid (Below w.heap.size w (wq.setCell ⟨g, 1, none⟩ (.int .i64 11))) := HLow.out.setCell (p := ⟨g, 1, none⟩) (by have := HG.out; show w.heap.size ≤ g; omega) _
      clear HX X12 B12 HLow g0 g1 f1 a0
      generalize wq.setCell ⟨g, 1, none⟩ (.int .i64 11) = wy at *
      have g1 : wy.cell? ⟨g, 1, none⟩ = some (.int .i64 11) := HE.out.cell 1
      go_upto_region 19 with fail
      clear g1
      have HS0 := And.intro (box_drew HE.out) (box_drew HB.out)
      refine stage_region 6 (fun W => W.cell? ⟨g, 1, none⟩ = some (.int .i64 11) ∧ Box W g 77 #[.slice a1 b.length c1, .int .i64 11] ∧ Box W w.heap.size 33 #[.int .i64 0, .int .i64 0, .int .i64 0, .int .i64 0, .int .i64 0, .int .i64 0, .int .i64 0, .int .i64 0, .int .i64 0, .int .i64 0, .bool false, .string ⟨#[]⟩]) (by kernel_rfl) ?_
      have HS := HS0
      refine' stage_take (i := 0) _ rfl (by kernel_rfl) (by kernel_rfl) (by kernel_rfl) (by kernel_rfl) (fun _ _ _ h => h) ⟨HS.1.cell 1, HS⟩ _ (fun W hW => _) _
      rotate_left
      focus (go_simp; done)
      focus (obtain ⟨k1, X9⟩ := hW; go_simp; first | done | (with_reducible rfl))
      simp only [Act.put, List.getElem_toArray, List.getElem_cons_succ, List.getElem_cons_zero, List.setIfInBounds_toArray, List.set_cons_zero, List.set_cons_succ]
      refine' stage_take (i := 1) _ rfl (by kernel_rfl) (by kernel_rfl) (by kernel_rfl) (by kernel_rfl) (fun _ _ _ h => h) ⟨HS.1.cell 1, HS⟩ _ (fun W hW => _) _
      rotate_left
      focus (go_simp; done)
      focus (obtain ⟨k1, X9⟩ := hW; go_simp; first | done | (with_reducible rfl))
      simp only [Act.put, List.getElem_toArray, List.getElem_cons_succ, List.getElem_cons_zero, List.setIfInBounds_toArray, List.set_cons_zero, List.set_cons_succ]
      refine' stage_take (i := 2) _ rfl (by kernel_rfl) (by kernel_rfl) (by kernel_rfl) (by kernel_rfl) (fun _ _ _ h => h) ⟨HS.1.cell 1, HS⟩ _ (fun W hW => _) _
      rotate_left
      focus (go_simp; done)
      focus (obtain ⟨k1, X9⟩ := hW; go_simp; first | done | (with_reducible rfl))
      simp only [Act.put, List.getElem_toArray, List.getElem_cons_succ, List.getElem_cons_zero, List.setIfInBounds_toArray, List.set_cons_zero, List.set_cons_succ]
      refine' stage_take (i := 3) _ rfl (by kernel_rfl) (by kernel_rfl) (by kernel_rfl) (by kernel_rfl) (fun _ _ _ h => h) ⟨HS.1.cell 1, HS⟩ _ (fun W hW => _) _
      rotate_left
      focus (go_simp; done)
      focus (obtain ⟨k1, X9⟩ := hW; go_simp; first | done | (with_reducible rfl))
      simp only [Act.put, List.getElem_toArray, List.getElem_cons_succ, List.getElem_cons_zero, List.setIfInBounds_toArray, List.set_cons_zero, List.set_cons_succ]
      refine' stage_take (i := 4) _ rfl (by kernel_rfl) (by kernel_rfl) (by kernel_rfl) (by kernel_rfl) (fun _ _ _ h => h) ⟨HS.1.cell 1, HS⟩ _ (fun W hW => _) _
      rotate_left
      focus (go_simp; done)
      focus (obtain ⟨k1, X9⟩ := hW; go_simp; first | done | (with_reducible rfl))
      simp only [Act.put, List.getElem_toArray, List.getElem_cons_succ, List.getElem_cons_zero, List.setIfInBounds_toArray, List.set_cons_zero, List.set_cons_succ]
      refine stage_only (i := 5) rfl (by kernel_rfl) ?_ (fun K hK => ?_)
      focus (go_simp; done)
      refine wp_store_row 33 (.tmp 2) (.tmp 80) rfl w.heap.size #[.int .i64 0, .int .i64 0, .int .i64 0, .int .i64 0, .int .i64 0, .int .i64 0, .int .i64 0, .int .i64 0, .int .i64 0, .int .i64 0, .bool false, .string ⟨#[]⟩] rfl rfl 33 #[.int .i64 0, .int .i64 0, .int .i64 0, .int .i64 0, .int .i64 0, .int .i64 0, .int .i64 0, .int .i64 0, .int .i64 0, .int .i64 0, .bool false, .string ⟨#[]⟩] HS.2 (by kernel_rfl) rfl (by simp [Value.oneCell']) ?_
      replace HS := And.intro (HS.1.farRow (k := w.heap.size) (by have := HG.out; omega) #[.int .i64 0, .int .i64 0, .int .i64 0, .int .i64 0, .int .i64 0, .int .i64 0, .int .i64 0, .int .i64 0, .int .i64 0, .int .i64 0, .bool false, .string ⟨#[]⟩]) (HS.2.row #[.int .i64 0, .int .i64 0, .int .i64 0, .int .i64 0, .int .i64 0, .int .i64 0, .int .i64 0, .int .i64 0, .int .i64 0, .int .i64 0, .bool false, .string ⟨#[]⟩])
      refine hK.out _ _ (fun _ => ⟨HS.1.cell 1, HS⟩) ?_
      clear hK K
      try simp only [Act.put, List.getElem_toArray, List.getElem_cons_succ, List.getElem_cons_zero, List.setIfInBounds_toArray, List.set_cons_zero, List.set_cons_succ]
      refine stage_only (i := 6) rfl (by kernel_rfl) ?_ (fun K hK => ?_)
      focus (go_simp; done)
      go_simp
      refine hK.out _ _ (fun h => absurd h (by decide)) ?_
      clear hK K
      try simp only [Act.put, List.getElem_toArray, List.getElem_cons_succ, List.getElem_cons_zero, List.setIfInBounds_toArray, List.set_cons_zero, List.set_cons_succ]
      refine stage_end (by kernel_rfl) ?_
      have HRB := Lib.hid HS.2
      have HLB := Lib.hid (below_setRow HL.out.drew (Nat.le_refl _) #[.int .i64 0, .int .i64 0, .int .i64 0, .int .i64 0, .int .i64 0, .int .i64 0, .int .i64 0, .int .i64 0, .int .i64 0, .int .i64 0, .bool false, .string ⟨#[]⟩])
      clear HS HS0 HE HB HL
      go_wp2_with fail
      refine bodyPost_ret (results_cell_slot (by rfl) _ _ HRB.out Tryz.underlying33 rfl (by kernel_rfl) rfl) rfl ⟨?_, ?_⟩
      · rw [HRes.out]; rfl
      · exact HLB.out
    · have hkb : (x0 == 0) = false := by simpa using hk0
      by_cases hr : 0 < b.length
      · have HRes : Hid (res = (zeroE, 13)) := by unfold Hid; rw [← hHE]; exact (if_neg hk0).trans (if_pos hr)
        clear hHE hk0
        go_upto_region 18 with fail
        have HE : Hid (Box (wq.setCell ⟨g, 1, none⟩ (.int .i64 13)) g 77 #[.slice a1 b.length c1, .int .i64 13]) := HX.out.set 1 _
        have HB : Hid (Box (wq.setCell ⟨g, 1, none⟩ (.int .i64 13)) w.heap.size 33 #[.int .i64 0, .int .i64 0, .int .i64 0, .int .i64 0, .int .i64 0, .int .i64 0, .int .i64 0, .int .i64 0, .int .i64 0, .int .i64 0, .bool false, .string ⟨#[]⟩]) := X12.out.rb.far (p := ⟨g, 1, none⟩) (by have := HG.out; simp; omega) _
        have HL : Hid (Below w.heap.size w (wq.setCell ⟨g, 1, none⟩ (.int .i64 13))) := HLow.out.setCell (p := ⟨g, 1, none⟩) (by have := HG.out; show w.heap.size ≤ g; omega) _
        clear HX X12 B12 HLow g0 g1 f1 a0
        generalize wq.setCell ⟨g, 1, none⟩ (.int .i64 13) = wy at *
        have g1 : wy.cell? ⟨g, 1, none⟩ = some (.int .i64 13) := HE.out.cell 1
        go_upto_region 19 with fail
        clear g1
        have HS0 := And.intro (box_drew HE.out) (box_drew HB.out)
        refine stage_region 6 (fun W => W.cell? ⟨g, 1, none⟩ = some (.int .i64 13) ∧ Box W g 77 #[.slice a1 b.length c1, .int .i64 13] ∧ Box W w.heap.size 33 #[.int .i64 0, .int .i64 0, .int .i64 0, .int .i64 0, .int .i64 0, .int .i64 0, .int .i64 0, .int .i64 0, .int .i64 0, .int .i64 0, .bool false, .string ⟨#[]⟩]) (by kernel_rfl) ?_
        have HS := HS0
        refine' stage_take (i := 0) _ rfl (by kernel_rfl) (by kernel_rfl) (by kernel_rfl) (by kernel_rfl) (fun _ _ _ h => h) ⟨HS.1.cell 1, HS⟩ _ (fun W hW => _) _
        rotate_left
        focus (go_simp; done)
        focus (obtain ⟨k1, X9⟩ := hW; go_simp; first | done | (with_reducible rfl))
        simp only [Act.put, List.getElem_toArray, List.getElem_cons_succ, List.getElem_cons_zero, List.setIfInBounds_toArray, List.set_cons_zero, List.set_cons_succ]
        refine' stage_take (i := 1) _ rfl (by kernel_rfl) (by kernel_rfl) (by kernel_rfl) (by kernel_rfl) (fun _ _ _ h => h) ⟨HS.1.cell 1, HS⟩ _ (fun W hW => _) _
        rotate_left
        focus (go_simp; done)
        focus (obtain ⟨k1, X9⟩ := hW; go_simp; first | done | (with_reducible rfl))
        simp only [Act.put, List.getElem_toArray, List.getElem_cons_succ, List.getElem_cons_zero, List.setIfInBounds_toArray, List.set_cons_zero, List.set_cons_succ]
        refine' stage_take (i := 2) _ rfl (by kernel_rfl) (by kernel_rfl) (by kernel_rfl) (by kernel_rfl) (fun _ _ _ h => h) ⟨HS.1.cell 1, HS⟩ _ (fun W hW => _) _
        rotate_left
        focus (go_simp; done)
        focus (obtain ⟨k1, X9⟩ := hW; go_simp; first | done | (with_reducible rfl))
        simp only [Act.put, List.getElem_toArray, List.getElem_cons_succ, List.getElem_cons_zero, List.setIfInBounds_toArray, List.set_cons_zero, List.set_cons_succ]
        refine' stage_take (i := 3) _ rfl (by kernel_rfl) (by kernel_rfl) (by kernel_rfl) (by kernel_rfl) (fun _ _ _ h => h) ⟨HS.1.cell 1, HS⟩ _ (fun W hW => _) _
        rotate_left
        focus (go_simp; done)
        focus (obtain ⟨k1, X9⟩ := hW; go_simp; first | done | (with_reducible rfl))
        simp only [Act.put, List.getElem_toArray, List.getElem_cons_succ, List.getElem_cons_zero, List.setIfInBounds_toArray, List.set_cons_zero, List.set_cons_succ]
        refine' stage_take (i := 4) _ rfl (by kernel_rfl) (by kernel_rfl) (by kernel_rfl) (by kernel_rfl) (fun _ _ _ h => h) ⟨HS.1.cell 1, HS⟩ _ (fun W hW => _) _
        rotate_left
        focus (go_simp; done)
        focus (obtain ⟨k1, X9⟩ := hW; go_simp; first | done | (with_reducible rfl))
        simp only [Act.put, List.getElem_toArray, List.getElem_cons_succ, List.getElem_cons_zero, List.setIfInBounds_toArray, List.set_cons_zero, List.set_cons_succ]
        refine stage_only (i := 5) rfl (by kernel_rfl) ?_ (fun K hK => ?_)
        focus (go_simp; done)
        refine wp_store_row 33 (.tmp 2) (.tmp 80) rfl w.heap.size #[.int .i64 0, .int .i64 0, .int .i64 0, .int .i64 0, .int .i64 0, .int .i64 0, .int .i64 0, .int .i64 0, .int .i64 0, .int .i64 0, .bool false, .string ⟨#[]⟩] rfl rfl 33 #[.int .i64 0, .int .i64 0, .int .i64 0, .int .i64 0, .int .i64 0, .int .i64 0, .int .i64 0, .int .i64 0, .int .i64 0, .int .i64 0, .bool false, .string ⟨#[]⟩] HS.2 (by kernel_rfl) rfl (by simp [Value.oneCell']) ?_
        replace HS := And.intro (HS.1.farRow (k := w.heap.size) (by have := HG.out; omega) #[.int .i64 0, .int .i64 0, .int .i64 0, .int .i64 0, .int .i64 0, .int .i64 0, .int .i64 0, .int .i64 0, .int .i64 0, .int .i64 0, .bool false, .string ⟨#[]⟩]) (HS.2.row #[.int .i64 0, .int .i64 0, .int .i64 0, .int .i64 0, .int .i64 0, .int .i64 0, .int .i64 0, .int .i64 0, .int .i64 0, .int .i64 0, .bool false, .string ⟨#[]⟩])
        refine hK.out _ _ (fun _ => ⟨HS.1.cell 1, HS⟩) ?_
        clear hK K
        try simp only [Act.put, List.getElem_toArray, List.getElem_cons_succ, List.getElem_cons_zero, List.setIfInBounds_toArray, List.set_cons_zero, List.set_cons_succ]
        refine stage_only (i := 6) rfl (by kernel_rfl) ?_ (fun K hK => ?_)
        focus (go_simp; done)
        go_simp
        refine hK.out _ _ (fun h => absurd h (by decide)) ?_
        clear hK K
        try simp only [Act.put, List.getElem_toArray, List.getElem_cons_succ, List.getElem_cons_zero, List.setIfInBounds_toArray, List.set_cons_zero, List.set_cons_succ]
        refine stage_end (by kernel_rfl) ?_
        have HRB := Lib.hid HS.2
        have HLB := Lib.hid (below_setRow HL.out.drew (Nat.le_refl _) #[.int .i64 0, .int .i64 0, .int .i64 0, .int .i64 0, .int .i64 0, .int .i64 0, .int .i64 0, .int .i64 0, .int .i64 0, .int .i64 0, .bool false, .string ⟨#[]⟩])
        clear HS HS0 HE HB HL
        go_wp2_with fail
        refine bodyPost_ret (results_cell_slot (by rfl) _ _ HRB.out Tryz.underlying33 rfl (by kernel_rfl) rfl) rfl ⟨?_, ?_⟩
        · rw [HRes.out]; rfl
        · exact HLB.out
      · have HRes : Hid (res = ((⟨x0, x1, x2, x3, x4, x5, x6, x7, x8, x9, (decide (n10 = 1)), x11⟩ : EvR), 0)) := by unfold Hid; rw [← hHE]; exact (if_neg hk0).trans (if_neg hr)
        clear hHE hk0
        go_upto_region 20 with fail
        clear g0 g1 f1 a0 HX
        go_wp2_with (first | ((with_reducible refine wpList_load_box rfl 33 (.tmp 5) rfl B12.out Tryz.underlying33 ?_ ?_ ?_ ?_); (· rfl); (· kernel_rfl); (· rfl)) | ((with_reducible refine wpList_store_box rfl 33 (.tmp 2) (.tmp 85) rfl #[.int .i64 x0, .int .i64 x1, .int .i64 x2, .int .i64 x3, .int .i64 x4, .int .i64 x5, .int .i64 x6, .int .i64 x7, .int .i64 x8, .int .i64 x9, .bool (decide (n10 = 1)), .string ⟨x11.toArray⟩] X12.out.rb ?_ ?_ ?_ ?_ ?_ ?_); (· kernel_rfl); (· rfl); (· simp [Value.oneCell']); (· rfl); (· rfl)))
        refine bodyPost_ret (results_cell_slot (by rfl) _ _ (X12.out.rb.row _) Tryz.underlying33 rfl (by kernel_rfl) rfl) rfl ⟨?_, ?_⟩
        · rw [HRes.out]; rfl
        · exact below_setRow HLow.out (Nat.le_refl _) _
  · have HRes : Hid (res = (zeroE, kk)) := by unfold Hid; rw [← HEnd.out, HQ.out]; rfl
    have HE := Lib.hid hx
    have HB := Lib.hid X12.out.rb
    have HL := HLow
    have g1 : wq.cell? ⟨g, 1, none⟩ = some (.int .i64 kk) := hx.cell 1
    have hk1 : (kk != 0) = true := by simpa using hk
    clear HEnd HQ hx X12 B12 HLow a0
    go_upto_region 19 with fail
    clear g1 hk hk1
    have HS0 := And.intro (box_drew HE.out) (box_drew HB.out)
    refine stage_region 6 (fun W => W.cell? ⟨g, 1, none⟩ = some (.int .i64 kk) ∧ Box W g 77 #[v, .int .i64 kk] ∧ Box W w.heap.size 33 #[.int .i64 0, .int .i64 0, .int .i64 0, .int .i64 0, .int .i64 0, .int .i64 0, .int .i64 0, .int .i64 0, .int .i64 0, .int .i64 0, .bool false, .string ⟨#[]⟩]) (by kernel_rfl) ?_
    have HS := HS0
    refine' stage_take (i := 0) _ rfl (by kernel_rfl) (by kernel_rfl) (by kernel_rfl) (by kernel_rfl) (fun _ _ _ h => h) ⟨HS.1.cell 1, HS⟩ _ (fun W hW => _) _
    rotate_left
    focus (go_simp; done)
    focus (obtain ⟨k1, X9⟩ := hW; go_simp; first | done | (with_reducible rfl))
    simp only [Act.put, List.getElem_toArray, List.getElem_cons_succ, List.getElem_cons_zero, List.setIfInBounds_toArray, List.set_cons_zero, List.set_cons_succ]
    refine' stage_take (i := 1) _ rfl (by kernel_rfl) (by kernel_rfl) (by kernel_rfl) (by kernel_rfl) (fun _ _ _ h => h) ⟨HS.1.cell 1, HS⟩ _ (fun W hW => _) _
    rotate_left
    focus (go_simp; done)
    focus (obtain ⟨k1, X9⟩ := hW; go_simp; first | done | (with_reducible rfl))
    simp only [Act.put, List.getElem_toArray, List.getElem_cons_succ, List.getElem_cons_zero, List.setIfInBounds_toArray, List.set_cons_zero, List.set_cons_succ]
    refine' stage_take (i := 2) _ rfl (by kernel_rfl) (by kernel_rfl) (by kernel_rfl) (by kernel_rfl) (fun _ _ _ h => h) ⟨HS.1.cell 1, HS⟩ _ (fun W hW => _) _
    rotate_left
    focus (go_simp; done)
    focus (obtain ⟨k1, X9⟩ := hW; go_simp; first | done | (with_reducible rfl))
    simp only [Act.put, List.getElem_toArray, List.getElem_cons_succ, List.getElem_cons_zero, List.setIfInBounds_toArray, List.set_cons_zero, List.set_cons_succ]
    refine' stage_take (i := 3) _ rfl (by kernel_rfl) (by kernel_rfl) (by kernel_rfl) (by kernel_rfl) (fun _ _ _ h => h) ⟨HS.1.cell 1, HS⟩ _ (fun W hW => _) _
    rotate_left
    focus (go_simp; done)
    focus (obtain ⟨k1, X9⟩ := hW; go_simp; first | done | (with_reducible rfl))
    simp only [Act.put, List.getElem_toArray, List.getElem_cons_succ, List.getElem_cons_zero, List.setIfInBounds_toArray, List.set_cons_zero, List.set_cons_succ]
    refine' stage_take (i := 4) _ rfl (by kernel_rfl) (by kernel_rfl) (by kernel_rfl) (by kernel_rfl) (fun _ _ _ h => h) ⟨HS.1.cell 1, HS⟩ _ (fun W hW => _) _
    rotate_left
    focus (go_simp; done)
    focus (obtain ⟨k1, X9⟩ := hW; go_simp; first | done | (with_reducible rfl))
    simp only [Act.put, List.getElem_toArray, List.getElem_cons_succ, List.getElem_cons_zero, List.setIfInBounds_toArray, List.set_cons_zero, List.set_cons_succ]
    refine stage_only (i := 5) rfl (by kernel_rfl) ?_ (fun K hK => ?_)
    focus (go_simp; done)
    refine wp_store_row 33 (.tmp 2) (.tmp 80) rfl w.heap.size #[.int .i64 0, .int .i64 0, .int .i64 0, .int .i64 0, .int .i64 0, .int .i64 0, .int .i64 0, .int .i64 0, .int .i64 0, .int .i64 0, .bool false, .string ⟨#[]⟩] rfl rfl 33 #[.int .i64 0, .int .i64 0, .int .i64 0, .int .i64 0, .int .i64 0, .int .i64 0, .int .i64 0, .int .i64 0, .int .i64 0, .int .i64 0, .bool false, .string ⟨#[]⟩] HS.2 (by kernel_rfl) rfl (by simp [Value.oneCell']) ?_
    replace HS := And.intro (HS.1.farRow (k := w.heap.size) (by have := HG.out; omega) #[.int .i64 0, .int .i64 0, .int .i64 0, .int .i64 0, .int .i64 0, .int .i64 0, .int .i64 0, .int .i64 0, .int .i64 0, .int .i64 0, .bool false, .string ⟨#[]⟩]) (HS.2.row #[.int .i64 0, .int .i64 0, .int .i64 0, .int .i64 0, .int .i64 0, .int .i64 0, .int .i64 0, .int .i64 0, .int .i64 0, .int .i64 0, .bool false, .string ⟨#[]⟩])
    refine hK.out _ _ (fun _ => ⟨HS.1.cell 1, HS⟩) ?_
    clear hK K
    try simp only [Act.put, List.getElem_toArray, List.getElem_cons_succ, List.getElem_cons_zero, List.setIfInBounds_toArray, List.set_cons_zero, List.set_cons_succ]
    refine stage_only (i := 6) rfl (by kernel_rfl) ?_ (fun K hK => ?_)
    focus (go_simp; done)
    go_simp
    refine hK.out _ _ (fun h => absurd h (by decide)) ?_
    clear hK K
    try simp only [Act.put, List.getElem_toArray, List.getElem_cons_succ, List.getElem_cons_zero, List.setIfInBounds_toArray, List.set_cons_zero, List.set_cons_succ]
    refine stage_end (by kernel_rfl) ?_
    have HRB := Lib.hid HS.2
    have HLB := Lib.hid (below_setRow HL.out.drew (Nat.le_refl _) #[.int .i64 0, .int .i64 0, .int .i64 0, .int .i64 0, .int .i64 0, .int .i64 0, .int .i64 0, .int .i64 0, .int .i64 0, .int .i64 0, .bool false, .string ⟨#[]⟩])
    clear HS HS0 HE HB HL
    go_wp2_with fail
    refine bodyPost_ret (results_cell_slot (by rfl) _ _ HRB.out Tryz.underlying33 rfl (by kernel_rfl) rfl) rfl ⟨?_, ?_⟩
    · rw [HRes.out]; rfl
    · exact HLB.out
end Go.Proofs.YtocjfjikkdpfdaaGreatDoor.ImgW
