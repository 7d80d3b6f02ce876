/- Above and Below of the document, Below of the tree, the library's lists. -/
import Derived.Test.YtmnhmlbpaebabaaTreeWalks
import Derived.Laws.Cover3
namespace Go.Proofs.Ytmnhmlbpaebabaa.TreeW
open Go.RowKit Go.Shelf Go.Proofs.Ytmnhmlbpaebabaa.Bas Go.Proofs.Ytmnhmlbpaebabaa.TreeM

theorem own_mono {w : World} {b b' : Nat} {e : TypeId} {size : Nat} {v : Value} {n : Nat} {xs : List Value} (h : w.ownsRow b e size v n xs) (hb : b' ≤ b) : w.ownsRow b' e size v n xs := by
  refine ⟨h.1, ?_⟩
  rcases h.2 with hn | ⟨g, cap, cur, rfl, hbg, hg⟩
  · exact .inl hn
  · exact .inr ⟨g, cap, cur, rfl, Nat.le_trans hb hbg, hg⟩
theorem rabove_calls (a : Option Addr) (cap : Nat) (ps : List Int) (v : Int) (w : World) (hbig : ps.length ≤ 9223372036854775807) (hc : At w a (i64s ps)) (hx : ∀ x ∈ ps, I64 x) :
    Calls Try.prog 8 #[.slice a ps.length cap, .int .i64 v] w fun e w' => ∃ s, e = .returned s ∧ w'.ownsRow w.heap.size 3 1 s (aboveF ps v).length (i64s (ints (aboveF ps v))) ∧ Below w.heap.size w w' := by
  have C := Lib.hid (rcheck_calls a cap ps w hbig hc hx)
  have two := checkF_cases ps
  go_enter Try.func8, Try.ntmps8
  obtain ⟨p, hp⟩ : ∃ p, p = checkF ps := ⟨_, rfl⟩
  rw [← hp] at C two
  have HC := Lib.hid hc
  clear hc hx hp
  rcases two with ⟨rfl, hok⟩ | ⟨h2, hok⟩
  · by_cases hv : 0 ≤ v ∧ v < ps.length
    · have hy := aboveF_yes (ps := ps) (v := v) ⟨hok, hv.1, hv.2⟩
      obtain ⟨k, rfl⟩ : ∃ k : Nat, v = k := ⟨v.toNat, by omega⟩
      simp only [Int.toNat_natCast] at hy
      rw [hy]
      have HU := Lib.hid (fun W hW => up_calls a cap ps k W (by have := hok.2.1; omega) (HC.out.keep (w' := W) hW) (by omega) (fun i hi => (hok.2.2 i (by omega)).up))
      clear hok hy
      go_wp2_with (first | (go_at_call 15; refine C.out.mono ?_; rintro e w2 ⟨rfl, hB⟩) | (go_at_call 17; refine (HU.out _ hB).mono ?_; rintro e w3 ⟨s, rfl, own, hB2⟩; have hB3 := hB.trans (hB2.mono hB.size)))
      go_ret
      exact ⟨_, rfl, own_mono own hB.size, hB3⟩
    · rw [aboveF_no (fun h => hv ⟨h.2.1, h.2.2⟩)]
      have hv' : v < 0 ∨ (ps.length : Int) ≤ v := by omega
      clear hok
      go_wp2_with (first | (go_at_call 15; refine C.out.mono ?_; rintro e w2 ⟨rfl, hB⟩))
      all_goals
        go_ret
        exact ⟨_, rfl, World.ownsRow_nil _ _ _ _, hB⟩
  · obtain ⟨p1, p2⟩ := p
    simp only at h2
    have hne : (p2 != 0) = true := by simp; omega
    rw [aboveF_no (fun h => hok h.1)]
    clear hok
    go_wp2_with (first | (go_at_call 15; refine C.out.mono ?_; rintro e w2 ⟨rfl, hB⟩))
    all_goals
      go_ret
      exact ⟨_, rfl, World.ownsRow_nil _ _ _ _, hB⟩

theorem int_cell {w : World} {b off : Nat} {xs : List Int} (hc : At w (some ⟨b, off, none⟩) (i64s xs)) (k : Nat) (hk : k < xs.length) : w.cell? ⟨b, off + k, none⟩ = some (.int .i64 xs[k]) := by
  obtain ⟨_, _, h, hc⟩ := hc k _ (i64s_get xs k hk)
  cases h
  exact hc
theorem take_mem_succ (xs : List Int) (x : Int) (k : Nat) (h : k < xs.length) : x ∈ xs.take (k + 1) ↔ x ∈ xs.take k ∨ x = xs[k] := by
  rw [List.take_succ_eq_append_getElem h, List.mem_append, List.mem_singleton]

set_option maxHeartbeats 1000000 in
theorem under_calls (a : Option Addr) (cap : Nat) (ps : List Int) (u v : Int) (w : World) (hbig : ps.length ≤ 9223372036854775807) (hc : At w a (i64s ps)) (hx : ∀ x ∈ ps, I64 x) :
    Calls Try.prog 22 #[.slice a ps.length cap, .int .i64 u, .int .i64 v] w fun e w' => e = .returned (.bool (decide (v ∈ ints (aboveF ps u)))) ∧ Below w.heap.size w w' := by
  have C := Lib.hid (rabove_calls a cap ps u w hbig hc hx)
  have hl := aboveF_len ps u
  rw [← ints_len] at hl
  obtain ⟨xs, hxs⟩ : ∃ xs, xs = ints (aboveF ps u) := ⟨_, rfl⟩
  rw [← ints_len, ← hxs] at C
  rw [← hxs] at hl ⊢
  clear hxs hc hx
  go_enter Try.func22, Try.ntmps22
  go_wp2_with (first | (go_at_call 8; refine C.out.mono ?_; rintro e w2 ⟨s, rfl, own, hB⟩; obtain ⟨ao, co, rfl, _, _, hat, _, _⟩ := at_of_owns own; clear own))
  go_loop [13] (fun i => ∃ k : Nat, k ≤ xs.length ∧ i = .int .i64 k ∧ Hid (v ∉ xs.take k)) (fun i => xs.length - (intOf i).toNat)
  case atStart => exact ⟨0, by omega, rfl, by simp [Hid]⟩
  case round =>
    obtain ⟨k, hk, rfl, H⟩ := hrel
    by_cases hlt : k < xs.length
    · obtain ⟨b, off, rfl, hcell⟩ := hat k _ (i64s_get xs k hlt)
      have hm := take_mem_succ xs v k hlt
      have hin : xs[k] ∈ xs := List.getElem_mem hlt
      by_cases he : xs[k] = v
      · have heb : (xs[k] == v) = true := by simpa using he
        have HI := Lib.hid (he ▸ hin)
        clear hm hin he H
        generalize xs[k] = x at *
        go_wp2_with fail
        go_ret
        exact ⟨ret_bool (by simp [HI.out]), hB⟩
      · have heb : (xs[k] == v) = false := by simpa using he
        have HI : Hid (v ∉ xs.take (k + 1)) := fun h => (hm.1 h).elim H.out (fun h => he h.symm)
        clear hm hin he H
        generalize xs[k] = x at *
        go_wp2_with fail
        go_round
        case rel => exact ⟨k + 1, by omega, by go_num, HI⟩
        case measure => simp [intOf]; omega
    · have hkk : k = xs.length := by omega
      subst hkk
      have H2 : Hid (v ∉ xs) := fun h => H.out (by rw [List.take_length]; exact h)
      clear H
      go_wp2_with fail
      go_ret
      exact ⟨ret_bool (by simp [H2.out]), hB⟩

/-- all below v, of the first n: the document's way -/
def rbelowN (ps : List Int) (v : Int) (n : Nat) : List Nat := (List.range n).filter fun (u : Nat) => decide (v ∈ ints (aboveF ps (u : Int)))
theorem rbelowN_succ (ps : List Int) (v : Int) (n : Nat) : rbelowN ps v (n + 1) = rbelowN ps v n ++ (if v ∈ ints (aboveF ps (n : Int)) then [n] else []) := by
  unfold rbelowN
  rw [List.range_succ, List.filter_append]
  by_cases h : v ∈ ints (aboveF ps (n : Int)) <;> simp [h]
theorem rbelowN_len (ps : List Int) (v : Int) (n : Nat) : (rbelowN ps v n).length ≤ n := by
  unfold rbelowN
  have := List.length_filter_le (fun (u : Nat) => decide (v ∈ ints (aboveF ps (u : Int)))) (List.range n)
  simpa using this

set_option maxHeartbeats 1000000 in
theorem rbelow_calls (a : Option Addr) (cap : Nat) (ps : List Int) (v : Int) (w : World) (hbig : ps.length * 8 ≤ 140737488351232) (hc : At w a (i64s ps)) (hx : ∀ x ∈ ps, I64 x) :
    Calls Try.prog 13 #[.slice a ps.length cap, .int .i64 v] w fun e w' => ∃ s, e = .returned s ∧ w'.ownsRow w.heap.size 3 1 s (rbelowN ps v ps.length).length (i64s (ints (rbelowN ps v ps.length))) ∧ Below w.heap.size w w' := by
  have C := Lib.hid (fun W u hW => under_calls a cap ps u v W (by omega) (hc.keep (w' := W) hW) hx)
  clear hc hx
  go_enter Try.func13, Try.ntmps13
  go_wp2_with fail
  go_loopw [5, 9] (fun o i wr => ∃ k : Nat, k ≤ ps.length ∧ i = .int .i64 k ∧ wr.ownsRow w.heap.size 3 1 o (rbelowN ps v k).length (i64s (ints (rbelowN ps v k))) ∧ Below w.heap.size w wr) (fun _ i _ => ps.length - (intOf i).toNat)
  case atStart => exact ⟨0, by omega, rfl, World.ownsRow_nil _ _ _ _, Below.refl _ _⟩
  case round =>
    obtain ⟨k, hk, rfl, own, hB⟩ := hrel
    obtain ⟨ao, co, rfl, _, _, _, _, _⟩ := at_of_owns own
    have hlen := rbelowN_len ps v k
    by_cases hlt : k < ps.length
    · have hs := rbelowN_succ ps v k
      by_cases hm : v ∈ ints (aboveF ps (k : Int))
      · rw [if_pos hm] at hs
        have C1 := C.out wr k hB
        simp only [hm, decide_true] at C1
        have HC1 := Lib.hid C1
        clear hm C1
        generalize rbelowN ps v k = pre at *
        go_wp2_with (first | (go_at_call 22; refine HC1.out.mono ?_; rintro e w2 ⟨rfl, hB1⟩; have own1 := owns_below own hB1; have hB2 := hB.trans (hB1.mono hB.size); have hz := hB2.size) | (at_builtin; refine wpList_append_at _ rfl (.tmp 16) (.tmp 18) elem64 rfl w.heap.size _ pre.length (i64s (ints pre)) rfl (own1.alloc _) (some ⟨w2.heap.size, 0, none⟩) 1 1 [.int .i64 (k : Int)] rfl rfl (at_alloc w2 #[.int .i64 (k : Int)] _ _) (by simp [Value.oneCell']) (by unfold maxLen; omega) (by omega) (by simp; omega) ?_; intro v2 w3 own2 bel2 g2 ob2; have hB3 := (hB2.alloc hz _).trans bel2))
        go_roundw
        case rel => exact ⟨k + 1, by omega, by go_num, by rw [hs]; exact own_snoc own2, hB3⟩
        case measure => simp [intOf]; omega
      · rw [if_neg hm, List.append_nil] at hs
        have C1 := C.out wr k hB
        simp only [hm, decide_false] at C1
        have HC1 := Lib.hid C1
        clear hm C1
        generalize rbelowN ps v k = pre at *
        go_wp2_with (first | (go_at_call 22; refine HC1.out.mono ?_; rintro e w2 ⟨rfl, hB1⟩; have own1 := owns_below own hB1; have hB2 := hB.trans (hB1.mono hB.size); have hz := hB2.size))
        go_roundw
        case rel => exact ⟨k + 1, by omega, by go_num, by rw [hs]; exact own1, hB2⟩
        case measure => simp [intOf]; omega
    · have hkk : k = ps.length := by omega
      subst hkk
      go_wp2_with fail
      go_ret
      exact ⟨_, rfl, own, hB⟩

set_option maxHeartbeats 1000000 in
theorem index_calls (a : Option Addr) (cap : Nat) (xs : List Int) (x : Int) (w : World) (hbig : xs.length ≤ 9223372036854775807) (hc : At w a (i64s xs)) :
    Calls Try.prog 23 #[.slice a xs.length cap, .int .i64 x] w fun e w' => (∃ r : Int, e = .returned (.int .i64 r) ∧ -1 ≤ r ∧ (0 ≤ r ↔ x ∈ xs)) ∧ w = w' := by
  have H0 := Lib.hid hc
  clear hc
  go_enter Try.func23, Try.ntmps23
  go_wp2_with fail
  go_loop [8] (fun i => ∃ k : Nat, k ≤ xs.length ∧ i = .int .i64 k ∧ Hid (x ∉ xs.take k)) (fun i => xs.length - (intOf i).toNat)
  case atStart => exact ⟨0, by omega, rfl, by simp [Hid]⟩
  case round =>
    obtain ⟨k, hk, rfl, H⟩ := hrel
    by_cases hlt : k < xs.length
    · obtain ⟨b, off, rfl, hcell⟩ := H0.out k _ (i64s_get xs k hlt)
      have hm := take_mem_succ xs x k hlt
      have hin : xs[k] ∈ xs := List.getElem_mem hlt
      by_cases he : x = xs[k]
      · have heb : (x == xs[k]) = true := by simpa using he
        have HI : Hid (x ∈ xs) := he ▸ hin
        clear hm hin he H
        generalize xs[k] = y at *
        go_wp2_with fail
        go_ret
        exact ⟨⟨k, rfl, by omega, by simp [HI.out]⟩, rfl⟩
      · have heb : (x == xs[k]) = false := by simpa using he
        have HI : Hid (x ∉ xs.take (k + 1)) := fun h => (hm.1 h).elim H.out (fun h => he h)
        clear hm hin he H
        generalize xs[k] = y at *
        go_wp2_with fail
        go_round
        case rel => exact ⟨k + 1, by omega, by go_num, HI⟩
        case measure => simp [intOf]; omega
    · have hkk : k = xs.length := by omega
      subst hkk
      have H2 : Hid (x ∉ xs) := fun h => H.out (by rw [List.take_length]; exact h)
      clear H
      go_wp2_with fail
      go_ret
      exact ⟨⟨-1, rfl, by omega, by simp [H2.out]⟩, rfl⟩
theorem contains_calls (a : Option Addr) (cap : Nat) (xs : List Int) (x : Int) (w : World) (hbig : xs.length ≤ 9223372036854775807) (hc : At w a (i64s xs)) :
    Calls Try.prog 21 #[.slice a xs.length cap, .int .i64 x] w fun e w' => e = .returned (.bool (decide (x ∈ xs))) ∧ w = w' := by
  have C := Lib.hid (index_calls a cap xs x w hbig hc)
  clear hc
  go_enter Try.func21, Try.ntmps21
  go_wp2_with (first | (go_at_call 23; refine C.out.mono ?_; rintro e w2 ⟨⟨r, rfl, hr1, hr2⟩, rfl⟩; have HR := Lib.hid hr2; clear hr2))
  go_ret
  exact ⟨ret_bool (by rw [Bool.eq_iff_iff]; simp [HR.out]), rfl⟩
theorem run_eql_slice_nil {P : Program} (w : World) (t e : TypeId) (a : Option Addr) (l c : Nat) (h : P.underlying t = some (.slice e)) : (binOp .eql t (.slice a l c) (.slice none 0 0)).run P w = .ok (.bool a.isNone) w := by
  simp only [binOp]
  simp [run_equal_slice_nil w t e a l c h]
theorem clone_calls (a : Option Addr) (cap : Nat) (xs : List Int) (w : World) (hbig : xs.length * 8 ≤ 140737488351232) (hc : At w a (i64s xs)) :
    Calls Try.prog 18 #[.slice a xs.length cap] w fun e w' => ∃ s, e = .returned s ∧ w'.ownsRow w.heap.size 3 1 s xs.length (i64s xs) ∧ Below w.heap.size w w' := by
  go_enter Try.func18, Try.ntmps18
  cases a with
  | none =>
    have h0 : xs = [] := by
      cases xs with
      | nil => rfl
      | cons x r => obtain ⟨b, off, h, _⟩ := hc 0 _ rfl; cases h
    subst h0
    have hq := run_eql_slice_nil (P := Try.prog) w 22 3 none 0 cap Try.underlying22
    simp only [Option.isNone] at hq
    go_wp2_with fail
    go_ret
    exact ⟨_, rfl, World.ownsRow_nil _ _ _ _, Below.refl _ _⟩
  | some p =>
    have hq := run_eql_slice_nil (P := Try.prog) w 22 3 (some p) xs.length cap Try.underlying22
    simp only [Option.isNone] at hq
    go_wp2_with (first | (at_builtin; refine wpList_append_at _ rfl (.tmp 5) (.tmp 6) elem64 rfl w.heap.size (.slice (some ⟨w.heap.size, 0, none⟩) 0 0) 0 [] rfl (owns_empty w _ _ _ (Nat.le_refl _)) (some p) xs.length cap (i64s xs) rfl (by rw [i64s_len]; omega) (hc.keep ((Below.refl _ _).alloc (Nat.le_refl _) _)) (one_i64 xs) (by unfold maxLen; omega) (by omega) (by simp) ?_; intro v2 w2 own2 bel2 _ _; have hB2 := ((Below.refl w.heap.size w).alloc (Nat.le_refl _) _).trans bel2; simp only [Nat.zero_add, List.nil_append] at own2))
    go_ret
    exact ⟨_, rfl, own2, hB2⟩

/-- two lists of numbers, one by one -/
theorem take_eq_succ (xs ys : List Int) (k : Nat) (hx : k < xs.length) (hy : k < ys.length) : xs.take (k + 1) = ys.take (k + 1) ↔ xs.take k = ys.take k ∧ xs[k] = ys[k] := by
  rw [List.take_succ_eq_append_getElem hx, List.take_succ_eq_append_getElem hy]
  constructor
  · intro h
    have := List.append_inj h (by simp; omega)
    exact ⟨this.1, by simpa using this.2⟩
  · rintro ⟨h1, h2⟩
    rw [h1, h2]

set_option maxHeartbeats 1000000 in
theorem same_calls (a b : Option Addr) (ca cb : Nat) (xs ys : List Int) (w : World) (hbig : xs.length ≤ 9223372036854775807) (hbig2 : ys.length ≤ 9223372036854775807) (ha : At w a (i64s xs)) (hb : At w b (i64s ys)) :
    Calls Try.prog 12 #[.slice a xs.length ca, .slice b ys.length cb] w fun e w' => e = .returned (.bool (decide (xs = ys))) ∧ ∃ n, w' = w.drewN n := by
  have HA := Lib.hid ha
  have HB := Lib.hid hb
  clear ha hb
  go_enter Try.func12, Try.ntmps12
  by_cases hl : xs.length = ys.length
  · go_wp2_with fail
    go_loopw [13] (fun i wr => ∃ k : Nat, k ≤ xs.length ∧ i = .int .i64 k ∧ (∃ n, wr = w.drewN n) ∧ Hid (xs.take k = ys.take k)) (fun i _ => xs.length - (intOf i).toNat)
    case atStart => exact ⟨0, by omega, rfl, ⟨0, rfl⟩, by simp [Hid]⟩
    case round =>
      obtain ⟨k, hk, rfl, ⟨n, rfl⟩, H⟩ := hrel
      by_cases hlt : k < xs.length
      · obtain ⟨b1, off1, rfl, hcell⟩ := HA.out k _ (i64s_get xs k hlt)
        obtain ⟨b2, off2, rfl, hcell2⟩ := HB.out k _ (i64s_get ys k (by omega))
        have hm := take_eq_succ xs ys k hlt (by omega)
        by_cases he : xs[k] = ys[k]
        · have HI : Hid (xs.take (k + 1) = ys.take (k + 1)) := hm.2 ⟨H.out, he⟩
          have heb : (xs[k] != ys[k]) = false := by simpa using he
          clear hm H he
          generalize xs[k] = x at *
          generalize ys[k] = y at *
          go_wp2_with fail
          go_quiet (fail)
          all_goals
            go_wp2_with fail
            go_roundw
            case rel => exact ⟨k + 1, by omega, by go_num, ⟨_, rfl⟩, HI⟩
            case measure => simp [intOf]; omega
        · have HI : Hid (xs ≠ ys) := fun h => he (by subst h; rfl)
          have heb : (xs[k] != ys[k]) = true := by simpa using he
          clear hm H he
          generalize xs[k] = x at *
          generalize ys[k] = y at *
          go_wp2_with fail
          go_quiet (fail)
          all_goals
            go_wp2_with fail
            go_ret
            exact ⟨ret_bool (by simpa using HI.out), _, World.drewN_drewN _ _ _⟩
      · have hkk : k = xs.length := by omega
        subst hkk
        have HI : Hid (xs = ys) := by
          have e := H.out
          rw [List.take_length, hl, List.take_length] at e
          exact e
        clear H
        go_wp2_with fail
        go_ret
        exact ⟨ret_bool (by simpa using HI.out), _, rfl⟩
  · have HI : Hid (xs ≠ ys) := fun h => hl (by rw [h])
    go_wp2_with fail
    go_ret
    exact ⟨ret_bool (by simpa using HI.out), 0, rfl⟩

set_option maxHeartbeats 1000000 in
theorem below_calls (a : Option Addr) (cap : Nat) (ps : List Int) (v : Int) (w : World) (hbig : ps.length * 8 ≤ 140737488351232) (hc : At w a (i64s ps)) (hx : ∀ x ∈ ps, I64 x) :
    Calls Try.prog 11 #[.slice a ps.length cap, .int .i64 v] w fun e w' => ∃ s, e = .returned s ∧ w'.ownsRow w.heap.size 3 1 s (belowF ps v).length (i64s (ints (belowF ps v))) ∧ Below w.heap.size w w' := by
  have C := Lib.hid (good_calls a cap ps v w (by omega) hc hx)
  have HC := Lib.hid hc
  clear hc hx
  go_enter Try.func11, Try.ntmps11
  unfold belowF
  by_cases hok : Ok ps ∧ 0 ≤ v ∧ v < ps.length
  · rw [if_pos hok]
    simp only [decide_eq_true hok] at C
    obtain ⟨o1, hv0, hvl⟩ := hok
    obtain ⟨k0, rfl⟩ : ∃ k : Nat, v = k := ⟨v.toNat, by omega⟩
    simp only [Int.toNat_natCast]
    have hn16 := o1.2.1
    have HO := Lib.hid o1
    clear o1
    go_wp2_with (first | (go_at_call 20; refine C.out.mono ?_; rintro e w2 ⟨rfl, hB⟩; have hz := hB.size))
    go_loopw [5, 6] (fun o i wr => ∃ k : Nat, k0 < k ∧ k ≤ ps.length ∧ i = .int .i64 k ∧ wr.ownsRow w.heap.size 3 1 o (belowN ps k0 k).length (i64s (ints (belowN ps k0 k))) ∧ Below w.heap.size w wr) (fun _ i _ => ps.length - (intOf i).toNat)
    case atStart =>
      refine ⟨k0 + 1, by omega, by omega, by go_num, ?_, hB.alloc hz _⟩
      rw [belowN_first]
      exact World.ownsRow_lit w2 #[.int .i64 (k0 : Int)] 1 hz (by simp [maxLen]) rfl
    case round =>
      obtain ⟨k, hk0, hk, rfl, own, hB3⟩ := hrel
      obtain ⟨ao, co, rfl, _, _, hat, _, _⟩ := at_of_owns own
      have hlen := belowN_len ps k0 k
      have hz3 := hB3.size
      by_cases hlt : k < ps.length
      · obtain ⟨b, off, rfl, hcell⟩ := par_at (HC.out.keep hB3) k hlt
        have hs := belowN_succ ps k0 k
        have hst := step_mem (HO.out.2.2 k hlt) hk0
        have CC := contains_calls ao co (ints (belowN ps k0 k)) (par ps k) wr (by rw [ints_len]; omega) hat
        rw [ints_len] at CC
        by_cases hm : k0 ∈ chain ps k
        · rw [if_pos hm] at hs
          simp only [hst.2 hm, decide_true] at CC
          have HCC := Lib.hid CC
          clear CC hm hst
          generalize belowN ps k0 k = pre at *
          go_wp2_with (first | (go_at_call 21; refine HCC.out.mono ?_; rintro e w4 ⟨rfl, rfl⟩) | (at_builtin; refine wpList_append_at _ rfl (.tmp 27) (.tmp 29) elem64 rfl w.heap.size _ pre.length (i64s (ints pre)) rfl (own.alloc _) (some ⟨wr.heap.size, 0, none⟩) 1 1 [.int .i64 (k : Int)] rfl rfl (at_alloc wr #[.int .i64 (k : Int)] _ _) (by simp [Value.oneCell']) (by unfold maxLen; omega) (by omega) (by simp; omega) ?_; intro v2 w5 own2 bel2 g2 ob2; have hB5 := (hB3.alloc hz3 _).trans bel2))
          go_roundw
          case rel => exact ⟨k + 1, by omega, by omega, by go_num, by rw [hs]; exact own_snoc own2, hB5⟩
          case measure => simp [intOf]; omega
        · rw [if_neg hm, List.append_nil] at hs
          have hno : ¬ par ps k ∈ ints (belowN ps k0 k) := fun h => hm (hst.1 h)
          rw [decide_eq_false hno] at CC
          have HCC := Lib.hid CC
          clear CC hm hst hno
          generalize belowN ps k0 k = pre at *
          go_wp2_with (first | (go_at_call 21; refine HCC.out.mono ?_; rintro e w4 ⟨rfl, rfl⟩))
          go_roundw
          case rel => exact ⟨k + 1, by omega, by omega, by go_num, by rw [hs]; exact own, hB3⟩
          case measure => simp [intOf]; omega
      · have hkk : k = ps.length := by omega
        subst hkk
        go_wp2_with fail
        go_ret
        exact ⟨_, rfl, own, hB3⟩
  · rw [if_neg hok]
    simp only [decide_eq_false hok] at C
    clear hok
    go_wp2_with (first | (go_at_call 20; refine C.out.mono ?_; rintro e w2 ⟨rfl, hB⟩))
    go_ret
    exact ⟨_, rfl, World.ownsRow_nil _ _ _ _, hB⟩
end Go.Proofs.Ytmnhmlbpaebabaa.TreeW
