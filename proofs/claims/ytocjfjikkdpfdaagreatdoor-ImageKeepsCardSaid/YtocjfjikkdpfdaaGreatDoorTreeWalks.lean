/- The walks of the tree's functions and the document's. -/
import Derived.Test.YtocjfjikkdpfdaaGreatDoorTreeMath
import Derived.Test.YtocjfjikkdpfdaaGreatDoorBaseSeq
import Derived.Test.YtocjfjikkdpfdaaGreatDoorRows
import Derived.WalkSpells
import Derived.WalkLawsBesides
set_option linter.unusedSimpArgs false
set_option linter.unusedVariables false
namespace Go.Proofs.YtocjfjikkdpfdaaGreatDoor.TreeW
open Go.RowKit Go.Shelf Go.Proofs.YtocjfjikkdpfdaaGreatDoor.Bas Go.Proofs.YtocjfjikkdpfdaaGreatDoor.TreeM

theorem elem64 : Elem Tryz.prog 28 3 (.int .i64 0) 1 8 := ⟨Tryz.underlying28, by kernel_rfl, rfl, by decide⟩
theorem par_at {w : World} {a : Option Addr} {ps : List Int} (hc : At w a (i64s ps)) (k : Nat) (hk : k < ps.length) : ∃ b off, a = some ⟨b, off, none⟩ ∧ w.cell? ⟨b, off + k, none⟩ = some (.int .i64 (par ps k)) := by
  have := hc k _ (i64s_getD ps k hk)
  rwa [show ps.getD k 0 = par ps k by unfold par; simp [List.getD, List.getElem?_eq_getElem hk]] at this

theorem par_cell {w : World} {b off : Nat} {ps : List Int} (hc : At w (some ⟨b, off, none⟩) (i64s ps)) (k : Nat) (hk : k < ps.length) : w.cell? ⟨b, off + k, none⟩ = some (.int .i64 (par ps k)) := by
  obtain ⟨_, _, h, hc⟩ := par_at hc k hk
  cases h
  exact hc
theorem own_snoc {w : World} {base : Nat} {s : Value} {pre : List Nat} {k : Nat} (h : w.ownsRow base 3 1 s (pre.length + 1) (i64s (ints pre) ++ [.int .i64 (k : Int)])) : w.ownsRow base 3 1 s (pre ++ [k]).length (i64s (ints (pre ++ [k]))) := by
  rw [ints_append, List.length_append]
  unfold i64s at h ⊢
  rw [List.map_append]
  exact h
theorem ret_bool {a b : Bool} (h : a = b) : Ending.returned (.bool a) = .returned (.bool b) := by rw [h]
def I64 (x : Int) : Prop := -9223372036854775808 ≤ x ∧ x ≤ 9223372036854775807
/-- how deep, as far as Check has come -/
def deepC (ps : List Int) (n k : Nat) : Array Value := ((List.range n).map fun i => Value.int .i64 (if i < k then ((chain ps i).length : Int) else 0)).toArray
theorem deepC_size (ps : List Int) (n k : Nat) : (deepC ps n k).size = n := by simp [deepC]
theorem deepC_zero (ps : List Int) (n : Nat) : madeCells (Value.int .i64 0).cells (n * 1) = deepC ps n 0 := by
  apply Array.toList_inj.1
  rw [Nat.mul_one, madeCells_one _ _ rfl]
  apply List.ext_getElem
  · simp [deepC]
  · intro i h1 h2; simp [deepC]
theorem deepC_get (ps : List Int) (n k i : Nat) (hi : i < k) (hk : k ≤ n) : (deepC ps n k)[i]? = some (.int .i64 ((chain ps i).length : Int)) := by
  have hin : i < n := by omega
  simp [deepC, hin, hi]
theorem deepC_set (ps : List Int) (n k : Nat) (hk : k < n) : (deepC ps n k).setIfInBounds k (.int .i64 ((chain ps k).length : Int)) = deepC ps n (k + 1) := by
  apply Array.ext_getElem?
  intro i
  rw [Array.getElem?_setIfInBounds, deepC_size, if_pos hk]
  simp only [deepC, List.getElem?_toArray, List.getElem?_map]
  by_cases h : k = i
  · subst h
    rw [if_pos rfl, List.getElem?_range hk]; simp
  · rw [if_neg h]
    by_cases hi : i < n
    · rw [List.getElem?_range hi]
      have : i < k + 1 ↔ i < k := by omega
      simp [this]
    · simp [hi]

set_option maxHeartbeats 1000000 in
theorem check_calls (a : Option Addr) (cap : Nat) (ps : List Int) (w : World) (hbig : ps.length ≤ 9223372036854775807) (hc : At w a (i64s ps)) (hx : ∀ x ∈ ps, I64 x) :
    Calls Tryz.prog 66 #[.slice a ps.length cap] w fun e w' => e = .returned (.tuple #[.int .i64 (checkF ps).1, .int .i64 (checkF ps).2]) ∧ Below w.heap.size w w' := by
  go_enter Tryz.func66, Tryz.ntmps66
  by_cases h2 : ps.length < 2
  · rw [checkF_short h2]
    go_wp2_with fail
    go_ret2
    exact ⟨rfl, Below.refl _ _⟩
  by_cases h16 : 16 < ps.length
  · rw [checkF_long h16]
    go_wp2_with fail
    go_ret2
    exact ⟨rfl, Below.refl _ _⟩
  have hmk := run_make_at elem64 ps.length (by omega) (by omega)
  rw [deepC_zero ps] at hmk
  go_wp2_with fail
  have X0 : Box (w.alloc (.cells (deepC ps ps.length 0) 3)) w.heap.size 3 (deepC ps ps.length 0) := Box.new _ _ _
  clear hmk
  go_loopw [18] (fun i wr => ∃ k : Nat, k ≤ ps.length ∧ i = .int .i64 k ∧ Box wr w.heap.size 3 (deepC ps ps.length k) ∧ Below w.heap.size w wr ∧ Hid (∀ i, i < k → Fine ps i)) (fun i _ => ps.length - (intOf i).toNat)
  case atStart => exact ⟨0, by omega, rfl, X0, (Below.refl _ _).alloc (Nat.le_refl _) _, fun i hi => absurd hi (by omega)⟩
  case round =>
    obtain ⟨k, hk, rfl, X, hB, H⟩ := hrel
    clear X0
    by_cases hlt : k < ps.length
    · obtain ⟨b, off, rfl, hcell⟩ := par_at (hc.keep hB) k hlt
      have hbw : b < w.heap.size := by
        obtain ⟨b', off', hb', hcw⟩ := hc k _ (i64s_getD ps k hlt)
        cases hb'
        exact World.block_lt_of_cell? w _ hcw
      clear hc
      have hp63 : I64 (par ps k) := by
        unfold par
        rw [List.getD_eq_getElem?_getD, List.getElem?_eq_getElem hlt]
        exact hx _ (List.getElem_mem hlt)
      have HX := Lib.hid hx
      clear hx
      unfold I64 at hp63
      have ck := X.cell k
      rw [show (deepC ps ps.length k)[k]? = some (.int .i64 0) by simp [deepC, hlt]] at ck
      have fk := X.frozen k
      have Xs := X.set k (.int .i64 ((chain ps k).length : Int))
      rw [deepC_set _ _ _ hlt] at Xs
      have hBs := hB.setCell (p := ⟨w.heap.size, k, none⟩) (Nat.le_refl _) (.int .i64 ((chain ps k).length : Int))
      have HXs := Lib.hid Xs
      have HBs := Lib.hid hBs
      clear Xs hBs
      by_cases hr : par ps k = -1
      · rw [hr] at hcell
        rw [chain_root hr] at HXs HBs
        have HF : Hid (∀ i, i < k + 1 → Fine ps i) := fun i hi => by
          rcases Nat.lt_succ_iff_lt_or_eq.1 hi with h | rfl
          · exact H.out i h
          · exact .inl hr
        clear H
        go_wp2_with fail
        go_roundw
        case rel => exact ⟨k + 1, by omega, by go_num, HXs.out, HBs.out, HF⟩
        case measure => simp [intOf]; omega
      · by_cases hb : 2 ≤ k ∧ 2 ≤ par ps k ∧ par ps k < k
        · obtain ⟨q, hq⟩ : ∃ q : Nat, par ps k = q := ⟨(par ps k).toNat, by omega⟩
          have hch := chain_step (ps := ps) (v := k) (by omega) (by omega)
          rw [hq] at hcell hb hr hp63 hch
          simp only [Int.toNat_natCast] at hch
          have cq := X.cell q
          rw [deepC_get ps _ k q (by omega) hk] at cq
          have hfine : Fine ps k ↔ (chain ps q).length < 4 := by
            unfold Fine
            rw [hq, hch]
            simp only [List.length_cons]
            omega
          by_cases h4 : (chain ps q).length < 4
          · rw [hch] at HXs HBs
            have HF : Hid (∀ i, i < k + 1 → Fine ps i) := fun i hi => by
              rcases Nat.lt_succ_iff_lt_or_eq.1 hi with h | rfl
              · exact H.out i h
              · exact hfine.2 h4
            clear H hch hfine hq
            simp only [List.length_cons] at HXs HBs
            generalize (chain ps q).length = d at *
            go_wp2_with fail
            go_roundw
            case rel => exact ⟨k + 1, by omega, by go_num, HXs.out, HBs.out, HF⟩
            case measure => simp [intOf]; omega
          · have HR := Lib.hid (checkF_bad (ps := ps) (k := k) (by omega) (by omega) hlt H.out (fun h => h4 (hfine.1 h)))
            clear H hch hfine hq HXs HBs
            generalize (chain ps q).length = d at *
            go_wp2_with fail
            go_ret2
            exact ⟨by rw [HR.out]; rfl, hB⟩
        · have HR := Lib.hid (checkF_bad (ps := ps) (k := k) (by omega) (by omega) hlt H.out (fun h => by unfold Fine at h; omega))
          clear H HXs HBs
          generalize par ps k = p at *
          go_wp2_with fail
          all_goals
            go_ret2
            exact ⟨by rw [HR.out]; rfl, hB⟩
    · have hkk : k = ps.length := by omega
      subst hkk
      have HR := Lib.hid (checkF_ok (ps := ps) (by omega) (by omega) H.out)
      clear H
      go_wp2_with fail
      go_ret2
      exact ⟨by rw [HR.out]; rfl, hB⟩

set_option maxHeartbeats 1000000 in
theorem up_calls (a : Option Addr) (cap : Nat) (ps : List Int) (v : Nat) (w : World) (hbig : ps.length ≤ 1000000) (hc : At w a (i64s ps)) (hv : v < ps.length) (hf : ∀ i, i ≤ v → (par ps i = -1 ∨ (0 ≤ par ps i ∧ par ps i < i))) :
    Calls Tryz.prog 84 #[.slice a ps.length cap, .int .i64 (v : Int)] w fun e w' => ∃ s, e = .returned s ∧ w'.ownsRow w.heap.size 3 1 s (chain ps v).length (i64s (ints (chain ps v))) ∧ Below w.heap.size w w' := by
  have HF := Lib.hid hf
  clear hf
  have hcl := chain_len ps v
  go_enter Tryz.func84, Tryz.ntmps84
  go_wp2_with fail
  go_loopw [5, 6] (fun o i wr => ∃ (pre : List Nat) (p : Int), i = .int .i64 p ∧ wr.ownsRow w.heap.size 3 1 o pre.length (i64s (ints pre)) ∧ Below w.heap.size w wr ∧ Hid (pre ++ tail ps p = chain ps v) ∧ -1 ≤ p ∧ p ≤ v) (fun _ i _ => (tail ps (intOf i)).length)
  case atStart => exact ⟨[], v, rfl, ⟨rfl, .inl ⟨rfl, rfl⟩⟩, Below.refl _ _, by simp [Hid, tail], by omega, by omega⟩
  case round =>
    obtain ⟨pre, p, rfl, own, hB, H, hp1, hp2⟩ := hrel
    obtain ⟨ao, co, rfl, _, _, _, _, _⟩ := at_of_owns own
    by_cases hp : p = -1
    · subst hp
      have e := H.out
      rw [show tail ps (-1) = [] from rfl, List.append_nil] at e
      subst e
      clear H
      go_wp2_with fail
      go_ret
      exact ⟨_, rfl, own, hB⟩
    · obtain ⟨k, rfl⟩ : ∃ k : Nat, p = k := ⟨p.toNat, by omega⟩
      have hk : k < ps.length := by omega
      have hu := HF.out k (by omega)
      have e := H.out
      have e0 : tail ps (k : Int) = k :: tail ps (par ps k) := by
        rw [← chain_fine hu]; simp [tail]
      rw [e0] at e
      have hlen : pre.length + 1 + (tail ps (par ps k)).length = (chain ps v).length := by rw [← e]; simp; omega
      obtain ⟨b, off, rfl, hcell⟩ := par_at (hc.keep hB) k hk
      have HC := Lib.hid hc
      clear hc
      have e' : Hid ((pre ++ [k]) ++ tail ps (par ps k) = chain ps v) := by simpa [Hid] using e
      have hmeas : (tail ps (par ps k)).length < (tail ps (k : Int)).length := by rw [e0]; simp
      have HM := Lib.hid hmeas
      clear H e e0 hmeas
      clear hcell
      have hne : ((k : Int) != -1) = true := by simp
      have hpl : pre.length ≤ ps.length := by omega
      have hz := hB.size
      go_wp2_with (first | (at_builtin; refine wpList_append_at _ rfl (.tmp 21) (.tmp 23) elem64 rfl w.heap.size _ pre.length (i64s (ints pre)) rfl (own.alloc _) (some ⟨wr.heap.size, 0, none⟩) 1 1 [.int .i64 (k : Int)] rfl rfl (at_alloc wr #[.int .i64 (k : Int)] _ _) (by simp [Value.oneCell']) (by unfold maxLen; omega) (by omega) (by simp; omega) ?_; intro v2 w2 own2 bel2 g2 ob2; have hB2 := (hB.alloc hz _).trans bel2; have hcell2 := par_cell (HC.out.keep hB2) k hk))
      go_roundw
      case rel => exact ⟨pre ++ [k], _, rfl, own_snoc own2, hB2, e', by omega, by omega⟩
      case measure => exact HM.out

set_option maxHeartbeats 1000000 in
theorem rcheck_calls (a : Option Addr) (cap : Nat) (ps : List Int) (w : World) (hbig : ps.length ≤ 9223372036854775807) (hc : At w a (i64s ps)) (hx : ∀ x ∈ ps, I64 x) :
    Calls Tryz.prog 53 #[.slice a ps.length cap] w fun e w' => e = .returned (.tuple #[.int .i64 (checkF ps).1, .int .i64 (checkF ps).2]) ∧ Below w.heap.size w w' := by
  go_enter Tryz.func53, Tryz.ntmps53
  by_cases h2 : ps.length < 2
  · rw [checkF_short h2]
    go_wp2_with fail
    go_ret2
    exact ⟨rfl, Below.refl _ _⟩
  by_cases h16 : 16 < ps.length
  · rw [checkF_long h16]
    go_wp2_with fail
    go_ret2
    exact ⟨rfl, Below.refl _ _⟩
  go_wp2_with fail
  go_loopw [14] (fun i wr => ∃ k : Nat, k ≤ ps.length ∧ i = .int .i64 k ∧ Below w.heap.size w wr ∧ Hid (∀ i, i < k → Fine ps i)) (fun i _ => ps.length - (intOf i).toNat)
  case atStart => exact ⟨0, by omega, rfl, Below.refl _ _, fun i hi => absurd hi (by omega)⟩
  case round =>
    obtain ⟨k, hk, rfl, hB, H⟩ := hrel
    by_cases hlt : k < ps.length
    · have hcr := hc.keep hB
      obtain ⟨b, off, rfl, hcell⟩ := par_at hcr k hlt
      have hp63 : I64 (par ps k) := by
        unfold par
        rw [List.getD_eq_getElem?_getD, List.getElem?_eq_getElem hlt]
        exact hx _ (List.getElem_mem hlt)
      have HX := Lib.hid hx
      have HC := Lib.hid hcr
      clear hx hc hcr
      unfold I64 at hp63
      by_cases hr : par ps k = -1
      · rw [hr] at hcell
        have HF : Hid (∀ i, i < k + 1 → Fine ps i) := fun i hi => by
          rcases Nat.lt_succ_iff_lt_or_eq.1 hi with h | rfl
          · exact H.out i h
          · exact .inl hr
        clear H
        go_wp2_with fail
        go_roundw
        case rel => exact ⟨k + 1, by omega, by go_num, hB, HF⟩
        case measure => simp [intOf]; omega
      · have hre : (par ps k == -1) = false := by simp; exact hr
        by_cases hb : 2 ≤ k ∧ 2 ≤ par ps k ∧ par ps k < k
        · have hU := up_calls (some ⟨b, off, none⟩) cap ps k wr (by omega) HC.out hlt (fun i hi => by
            rcases Nat.lt_or_eq_of_le hi with h | rfl
            · exact (H.out i h).up
            · exact .inr ⟨by omega, hb.2.2⟩)
          have hfine : Fine ps k ↔ (chain ps k).length ≤ 4 := by
            unfold Fine
            omega
          have hcl := chain_len ps k
          by_cases h4 : (chain ps k).length ≤ 4
          · have HF : Hid (∀ i, i < k + 1 → Fine ps i) := fun i hi => by
              rcases Nat.lt_succ_iff_lt_or_eq.1 hi with h | rfl
              · exact H.out i h
              · exact hfine.2 h4
            clear H hfine
            have HU := Lib.hid hU
            clear hU
            generalize par ps k = p at *
            go_wp2_with (first | (go_at_call 84; refine HU.out.mono ?_; rintro e w2 ⟨s, rfl, own, hB2⟩; have hB3 := hB.trans (hB2.mono hB.size); obtain ⟨ao, co, rfl, _⟩ := at_of_owns own))
            go_roundw
            case rel => exact ⟨k + 1, by omega, by go_num, hB3, HF⟩
            case measure => simp [intOf]; omega
          · have HR := Lib.hid (checkF_bad (ps := ps) (k := k) (by omega) (by omega) hlt H.out (fun h => h4 (hfine.1 h)))
            clear H hfine
            have HU := Lib.hid hU
            clear hU
            generalize par ps k = p at *
            go_wp2_with (first | (go_at_call 84; refine HU.out.mono ?_; rintro e w2 ⟨s, rfl, own, hB2⟩; have hB3 := hB.trans (hB2.mono hB.size); obtain ⟨ao, co, rfl, _⟩ := at_of_owns own))
            go_ret2
            exact ⟨by rw [HR.out]; rfl, hB3⟩
        · have HR := Lib.hid (checkF_bad (ps := ps) (k := k) (by omega) (by omega) hlt H.out (fun h => by unfold Fine at h; omega))
          clear H
          generalize par ps k = p at *
          go_wp2_with fail
          all_goals
            go_ret2
            exact ⟨by rw [HR.out]; rfl, hB⟩
    · have hkk : k = ps.length := by omega
      subst hkk
      have HR := Lib.hid (checkF_ok (ps := ps) (by omega) (by omega) H.out)
      clear H
      go_wp2_with fail
      go_ret2
      exact ⟨by rw [HR.out]; rfl, hB⟩

end Go.Proofs.YtocjfjikkdpfdaaGreatDoor.TreeW
