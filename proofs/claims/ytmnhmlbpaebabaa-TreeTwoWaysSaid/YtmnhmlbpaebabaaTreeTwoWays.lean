/- TreeTwoWays: the plain law, the walk, and the step from the law's arguments to it. -/
import Derived.Test.YtmnhmlbpaebabaaTreeLawBase
import Derived.Deep.Cut
namespace Go.Proofs.Ytmnhmlbpaebabaa.treeTwoWays
open Go.ChangeShapes Go.WideShapes Go.ChangeAt Go.RowKit Go.Shelf Go.Proofs.Ytmnhmlbpaebabaa.Bas Go.Proofs.Ytmnhmlbpaebabaa.TreeM Go.Proofs.Ytmnhmlbpaebabaa.TreeW
attribute [local go_sem] Oper.semAt_some

/-- one account at the most stands on top of a chain -/
theorem one_root {ps : List Int} (h : Ok ps) : ∀ x, x < ps.length → ∀ u v, par ps u = -1 → par ps v = -1 → u ∈ chain ps x → v ∈ chain ps x → u = v := by
  intro x
  induction x using Nat.strongRecOn with
  | _ x ih =>
    intro hx u v hu hv h1 h2
    have hup := (h.2.2 x hx).up
    rw [chain_fine hup] at h1 h2
    rcases hup with hr | ⟨hp1, hp2⟩
    · rw [hr] at h1 h2
      simp [tail] at h1 h2
      omega
    · have ht : tail ps (par ps x) = chain ps (par ps x).toNat := by unfold tail; rw [if_pos hp1]
      rw [ht] at h1 h2
      rcases List.mem_cons.1 h1 with rfl | h1
      · omega
      · rcases List.mem_cons.1 h2 with rfl | h2
        · omega
        · exact ih _ (by omega) (by omega) u v hu hv h1 h2
theorem no_shared {ps : List Int} (h : Ok ps) {u v : Nat} (hu : u < ps.length) (hv : v < ps.length) (h1 : par ps u = -1) (h2 : par ps v = -1) (hne : u ≠ v) : ¬ ∃ x ∈ ints (belowF ps v), x ∈ ints (belowF ps u) := by
  rintro ⟨x, hx, hy⟩
  rw [mem_ints] at hx hy
  unfold belowF at hx hy
  rw [if_pos ⟨h, by omega, by omega⟩] at hx hy
  simp only [Int.toNat_natCast] at hx hy
  have a := mem_belowN.1 hx.2
  have b := mem_belowN.1 hy.2
  exact hne (one_root h _ a.1 u v h1 h2 b.2 a.2)
theorem up_down {ps : List Int} (h : Ok ps) {u v : Nat} (hu : u < ps.length) (hv : v < ps.length) : (u : Int) ∈ ints (belowF ps v) ↔ v ∈ aboveF ps u := by
  rw [mem_ints, aboveF_yes ⟨h, by omega, by omega⟩]
  unfold belowF
  rw [if_pos ⟨h, by omega, by omega⟩]
  simp only [Int.toNat_natCast, mem_belowN]
  constructor
  · exact fun h => h.2.2
  · exact fun h => ⟨by omega, hu, h⟩
theorem mem_snoc (l : List Nat) (x v : Nat) : decide (v ∈ l ++ [x]) = (decide (v ∈ l) || decide ((x : Int) = (v : Int))) := by
  rw [Bool.eq_iff_iff]
  simp
  exact ⟨fun h => h.imp id (fun h => by omega), fun h => h.imp id (fun h => by omega)⟩

theorem flag_own (g : Nat) (t : TypeId) (v : Nat) (B : Nat) : OwnFrom B (fun (pre : List Nat) W => Box W g t #[.bool (decide (v ∈ pre))]) :=
  fun _ _ _ _ hs hg hr => hs.grown hg (fun r e => (hr r e).2)

set_option maxHeartbeats 4000000 in
set_option maxRecDepth 100000 in
theorem walk (a : Option Addr) (cap : Nat) (ps : List Int) (u v : Int) (w : World) (hbig : ps.length * 8 ≤ 140737488351232) (hc : At w a (i64s ps)) (hx : ∀ x ∈ ps, I64 x) :
    Calls Try.prog 4 #[.slice a ps.length cap, .int .i64 u, .int .i64 v] w fun e w' => e = .returned (.bool true) ∧ Below w.heap.size w w' := by
  have C0 := Lib.hid (fun W => wakes_calls W)
  have C1 := Lib.hid (fun W h => check_calls a cap ps W (by omega) h hx)
  have HC := Lib.hid hc
  have HX := Lib.hid hx
  have two := checkF_cases ps
  obtain ⟨p, hp⟩ : ∃ p, p = checkF ps := ⟨_, rfl⟩
  rw [← hp] at C1 two
  clear hc hx hp
  refine (callsIn_wide (n := 9)).1 (callsIn_of_wp_marks Try.func4 rfl trivial ?_ rfl)
  refine wpIn_wide.2 ?_
  simp only [Try.ntmps4, List.size_toArray, List.length_cons, List.length_nil, Nat.reduceAdd, Nat.reduceSub, Array.replicate_succ, Array.replicate_zero, List.push_toArray, List.append_toArray, List.nil_append, List.cons_append]
  go_upto_region 1 with fail
  have V0 := Box.new w 3 #[.int .i64 v]
  have B0 := (Below.refl w.heap.size w).alloc (Nat.le_refl _) (.cells #[.int .i64 v] 3)
  have z0 : w.heap.size < (w.alloc (.cells #[.int .i64 v] 3)).heap.size := by simp
  generalize (w.alloc (.cells #[.int .i64 v] 3)) = w0 at *
  rcases two with ⟨rfl, hok⟩ | ⟨h2, hok⟩
  · have HO := Lib.hid hok
    have hn16 := hok.2.1
    clear hok
    by_cases hin : 0 ≤ u ∧ u < ps.length ∧ 0 ≤ v ∧ v < ps.length
    · obtain ⟨ku, rfl⟩ : ∃ k : Nat, u = k := ⟨u.toNat, by omega⟩
      obtain ⟨kv, rfl⟩ : ∃ k : Nat, v = k := ⟨v.toNat, by omega⟩
      have hu : ku < ps.length := by omega
      have hv : kv < ps.length := by omega
      clear hin
      go_wp2_with (first | (go_at_call 7; refine (C0.out _).mono ?_; rintro e w1 ⟨rfl, b1⟩; have B1 := B0.trans (b1.mono (Nat.le_of_lt z0)); have V1 := V0.keep b1; clear V0 b1) | (go_at_call 14; refine (C1.out _ (HC.out.keep B1)).mono ?_; rintro e w2 ⟨rfl, b2⟩; have B2 := B1.trans (b2.mono B1.size); have V2 := V1.keep b2; clear V1 b2 C0 C1; have c5 := V2.cell 0) | (go_at_call 9; refine (above_calls a cap ps ku _ hbig ((HC.out.keep B2).keep ((Below.refl _ _).alloc (Nat.le_refl _) _))).mono ?_; rintro e w3 ⟨go, gv, s, rfl, K3, b3⟩; unfold seqF))
      have z2 := B2.size
      have G3 := (Box.new w2 4 #[.bool false]).keep b3
      have V3 := (V2.alloc (.cells #[.bool false] 4)).keep b3
      have B3 := (B2.alloc z2 (.cells #[.bool false] 4)).trans (b3.mono (by simp; omega))
      have zv := V2.lt
      have zg : w2.heap.size < (w2.alloc (.cells #[.bool false] 4)).heap.size := by simp
      have z3 := B3.size
      have z23 := b3.size
      clear c5 V2 B2 b3 B1 B0
      generalize (w2.alloc (.cells #[.bool false] 4)).heap.size = lo at *
      generalize w2.heap.size = g at *
      have hN : (aboveF ps ku).length ≤ 4 := aboveF_len ps ku
      refine wpIn_wide.1 (wpIn_rangeFunc_ownF (n := 9) (encs := encN) rfl (by decide) (gf := 19) (lb := #[.pointer (some ⟨go, 0, none⟩), .pointer (some ⟨gv, 0, none⟩)]) rfl trivial (enters_of Try.func19 (by kernel_rfl) rfl)
        (above_stops 8 (by decide) lo w3.heap.size go gv s ps ku hbig HX.out w3 K3 (Nat.le_refl _)) span_t (Span.put (Nat.le_refl _)) (Below.refl _ _) (fun _ => rfl)
        (fun pre W => Box W g 4 #[.bool (decide (kv ∈ pre))] ∧ Box W w.heap.size 3 #[.int .i64 (kv : Int)] ∧ Below w.heap.size w W)
        (fun c _ W => False)
        ((flag_own g _ kv _).and ((box_own _ _ _ _).and (ownFrom_below (Nat.le_refl _) z3))) (fun c => own_false _) ⟨G3, V3, B3⟩
        _ (by intro l x W K hK; unfold encN; gi_wp2; exact hK) ?body ?done ?stop)
      case body =>
        rintro l pre x W ⟨hG, hV, hB⟩ hlen
        have cn := hG.cell 0
        have fn := hG.frozen 0
        have cv := hV.cell 0
        have HFin := Lib.hid (fun (b : Bool) (hb : b = decide (kv ∈ pre ++ [x])) => (show KeepsOthers W (W.setCell ⟨g, 0, none⟩ (.bool b)) ∧ Span lo w3.heap.size W (W.setCell ⟨g, 0, none⟩ (.bool b)) ∧ Box (W.setCell ⟨g, 0, none⟩ (.bool b)) g 4 #[.bool (decide (kv ∈ pre ++ [x]))] ∧ Box (W.setCell ⟨g, 0, none⟩ (.bool b)) w.heap.size 3 #[.int .i64 (kv : Int)] ∧ Below w.heap.size w (W.setCell ⟨g, 0, none⟩ (.bool b)) from
          ⟨KeepsOthers.setCell W _ _, Span.set W ⟨g, 0, none⟩ _ (.inl zg), by have := hG.set 0 (.bool b); rw [← hb]; simpa using this, hV.far (p := ⟨g, 0, none⟩) (by simp; omega) _, hB.setCell (p := ⟨g, 0, none⟩) (by simp; omega) _⟩))
        clear hG hV hB
        gi_wp2
        all_goals
          rename_i hm
          exact HFin.out _ (by rw [mem_snoc, Bool.eq_iff_iff]; simp [hm])
      case done =>
        rintro D ys W hD rfl ⟨hG, hV, hB⟩ hK
        have cn := hG.cell 0
        have cv := hV.cell 0
        have hK' : MarkAt W D := hK
        have hud := up_down HO.out hu hv
        have hns := no_shared HO.out hu hv
        have HD1 := Lib.hid (below_calls a cap ps kv W hbig (HC.out.keep hB) HX.out)
        have HD2 := Lib.hid (fun W' h => below_calls a cap ps ku W' hbig (HC.out.keep (w' := W') h) HX.out)
        obtain ⟨xs, hxs⟩ : ∃ xs, xs = ints (belowF ps kv) := ⟨_, rfl⟩
        obtain ⟨ys, hys⟩ : ∃ ys, ys = ints (belowF ps ku) := ⟨_, rfl⟩
        rw [← ints_len, ← hxs] at HD1
        rw [← hxs] at hud
        rw [← hxs, ← hys] at hns
        simp only [← ints_len, ← hys] at HD2
        have hlx : xs.length ≤ 16 := by rw [hxs, ints_len]; unfold belowF; split; exact Nat.le_trans (belowN_len _ _ _) hn16; simp
        have hly : ys.length ≤ 16 := by rw [hys, ints_len]; unfold belowF; split; exact Nat.le_trans (belowN_len _ _ _) hn16; simp
        have HNS := Lib.hid hns
        have HUD := Lib.hid hud
        clear hxs hys hns hud
        obtain ⟨U, hU⟩ : ∃ U, U = decide (kv ∈ aboveF ps ku) := ⟨_, rfl⟩
        rw [← hU] at cn hG
        have HU := Lib.hid hU
        clear hU
        go_wp2_with (first | (go_at_call 11; refine HD1.out.mono ?_; rintro e w4 ⟨s4, rfl, own4, b4⟩; obtain ⟨a4, c4, rfl, _, _, at4, _, _⟩ := at_of_owns own4; clear own4))
        have B4 := hB.trans (b4.mono hB.size)
        have G4 := hG.keep b4
        have V4 := hV.keep b4
        have M4 := hK'.below b4 (Array.getElem?_eq_some_iff.1 hK').1
        clear hB b4 hG hV cn cv hK hK'
        go_loopw [11, 12, 60] (fun d sh i wr => ∃ k : Nat, k ≤ xs.length ∧ i = .int .i64 k ∧ (∃ db : Bool, d = .bool db ∧ Hid (db = decide ((ku : Int) ∈ xs.take k))) ∧ (∃ sb : Bool, sh = .bool sb ∧ Hid (sb = true ↔ ∃ x ∈ xs.take k, x ∈ ys)) ∧ Below w4.heap.size w4 wr) (fun _ _ i _ => xs.length - (intOf i).toNat)
        case atStart => exact ⟨0, by omega, rfl, ⟨false, rfl, by simp [Hid]⟩, ⟨false, rfl, by simp [Hid]⟩, Below.refl _ _⟩
        case round =>
          obtain ⟨k, hk, rfl, ⟨db, rfl, hdb⟩, ⟨sb, rfl, hsb⟩, b5⟩ := hrel
          have V5 := V4.keep b5
          have G5 := G4.keep b5
          have cn := G5.cell 0
          have cv := V5.cell 0
          have B5 := B4.trans (b5.mono B4.size)
          by_cases hlt : k < xs.length
          · obtain ⟨b, off, rfl, hcell⟩ := (at4.keep b5) k _ (i64s_get xs k hlt)
            have hmd := take_mem_succ xs ku k hlt
            have hmx : ∀ x', x' ∈ xs.take (k + 1) ↔ x' ∈ xs.take k ∨ x' = xs[k] := fun x' => take_mem_succ xs x' k hlt
            have HDn : Hid (∀ b : Bool, (b = true ↔ db = true ∨ xs[k] = (ku : Int)) → b = decide ((ku : Int) ∈ xs.take (k + 1))) := fun b hb => by
              rw [Bool.eq_iff_iff, hb, hdb.out]
              simp only [decide_eq_true_eq, hmd]
              exact ⟨fun h => h.imp id Eq.symm, fun h => h.imp id Eq.symm⟩
            have HSn : Hid (∀ b : Bool, (b = true ↔ sb = true ∨ xs[k] ∈ ys) → (b = true ↔ ∃ x' ∈ xs.take (k + 1), x' ∈ ys)) := fun b hb => by
              rw [hb, hsb.out]
              simp only [hmx]
              constructor
              · rintro (⟨x', h1, h2⟩ | h)
                · exact ⟨x', .inl h1, h2⟩
                · exact ⟨_, .inr rfl, h⟩
              · rintro ⟨x', h1 | rfl, h2⟩
                · exact .inl ⟨x', h1, h2⟩
                · exact .inr h2
            clear hmd hmx hdb hsb
            generalize xs[k] = x at *
            have zz5 := b5.size
            go_wp2_with (first | (go_at_call 11; refine (HD2.out _ B5).mono ?_; rintro e w6 ⟨s6, rfl, own6, b6⟩; obtain ⟨a6, c6, rfl, hq1, hq2, at6, hq3, hq4⟩ := at_of_owns own6; clear own6 hq1 hq2 hq3 hq4; have b7 := b5.trans (b6.mono zz5)))
            all_goals
              rename_i hm
              have HM := Lib.hid hm
              clear hm
              go_loop [12, 74] (fun sh j => ∃ m : Nat, m ≤ ys.length ∧ j = .int .i64 m ∧ ∃ sb' : Bool, sh = .bool sb' ∧ Hid (sb' = true ↔ sb = true ∨ x ∈ ys.take m)) (fun _ j => ys.length - (intOf j).toNat)
              case atStart => exact ⟨0, by omega, rfl, sb, rfl, by simp [Hid]⟩
              case round =>
                obtain ⟨m, hm, rfl, sb', rfl, hsb'⟩ := hrel
                by_cases hlm : m < ys.length
                · obtain ⟨b2, off2, rfl, hcell2⟩ := at6 m _ (i64s_get ys m hlm)
                  have hmy := take_mem_succ ys x m hlm
                  have HIn : Hid (∀ b : Bool, (b = true ↔ sb' = true ∨ x = ys[m]) → (b = true ↔ sb = true ∨ x ∈ ys.take (m + 1))) := fun b hb => by
                    rw [hb, hsb'.out, hmy, or_assoc]
                  clear hmy hsb'
                  generalize ys[m] = y at *
                  go_wp2_with fail
                  all_goals
                    rename_i hs
                    go_round
                    case rel => exact ⟨m + 1, by omega, by go_num, _, rfl, HIn.out _ (by simp [hs])⟩
                    case measure => simp [intOf]; omega
                · have hmm : m = ys.length := by omega
                  subst hmm
                  rw [List.take_length] at hsb'
                  go_wp2_with fail
                  go_roundw
                  case rel => exact ⟨k + 1, by omega, by go_num, ⟨_, rfl, HDn.out _ (by simp [HM.out])⟩, ⟨sb', rfl, HSn.out _ hsb'.out⟩, b7⟩
                  case measure => simp [intOf]; omega
          · have hkk : k = xs.length := by omega
            subst hkk
            rw [List.take_length] at hdb hsb
            have hUd : U = db := by rw [HU.out, hdb.out, Bool.eq_iff_iff]; simp [HUD.out]
            subst hUd
            have hneq : (U != U) = false := by simp
            obtain ⟨b, off, rfl, cu⟩ := par_at (HC.out.keep B5) ku hu
            have cp := par_cell (HC.out.keep B5) kv hv
            have M5 := M4.below b5 (Array.getElem?_eq_some_iff.1 M4).1
            have hgoal : Hid (¬ par ps ku = -1 ∨ ¬ par ps kv = -1 ∨ ku = kv ∨ sb = false) := by
              by_cases h1 : par ps ku = -1
              · by_cases h2 : par ps kv = -1
                · by_cases h3 : ku = kv
                  · exact .inr (.inr (.inl h3))
                  · exact .inr (.inr (.inr (Bool.eq_false_iff.2 fun e => HNS.out h1 h2 h3 (hsb.out.1 e))))
                · exact .inr (.inl h2)
              · exact .inl h1
            clear hdb hsb
            generalize par ps ku = pu at *
            generalize par ps kv = pv at *
            go_wp2_with fail
            all_goals
              refine leave_marks (B := w.heap.size) [D] _ (by simp; omega) (by simp) (by simp; exact M5) (fun W' hb hx => ?_)
              refine ⟨.bool true, ?_, rfl, B5.trans hb⟩
              have hg := hgoal.out
              simp [results, Try.f4, go_sem]
              all_goals
                rename_i e1 e2 e3
                rcases hg with h | h | h | h
                · exact absurd e1 h
                · exact absurd e2 h
                · exact .inl (by rw [h])
                · exact .inr h
      case stop =>
        rintro D c pre W hD hpre h hK
        exact h.elim
    · have hout : u < 0 ∨ (ps.length : Int) ≤ u ∨ v < 0 ∨ (ps.length : Int) ≤ v := by omega
      clear hin
      go_wp2_with (first | (go_at_call 7; refine (C0.out _).mono ?_; rintro e w1 ⟨rfl, b1⟩; have B1 := B0.trans (b1.mono (Nat.le_of_lt z0)); have V1 := V0.keep b1; clear V0 b1) | (go_at_call 14; refine (C1.out _ (HC.out.keep B1)).mono ?_; rintro e w2 ⟨rfl, b2⟩; have B2 := B1.trans (b2.mono B1.size); have V2 := V1.keep b2; clear V1 b2 C0 C1; have c5 := V2.cell 0))
      all_goals
        refine leave_marks (B := w.heap.size) [] _ (by simp) (by simp) (by simp) (fun W' hb hx => ?_)
        exact ⟨_, by simp [results, Try.f4, go_sem], rfl, B2.trans hb⟩
  · obtain ⟨p1, p2⟩ := p
    simp only at h2
    have hne : (p2 != 0) = true := by simp; omega
    clear hok
    go_wp2_with (first | (go_at_call 7; refine (C0.out _).mono ?_; rintro e w1 ⟨rfl, b1⟩; have B1 := B0.trans (b1.mono (Nat.le_of_lt z0)); have V1 := V0.keep b1; clear V0 b1) | (go_at_call 14; refine (C1.out _ (HC.out.keep B1)).mono ?_; rintro e w2 ⟨rfl, b2⟩; have B2 := B1.trans (b2.mono B1.size); have V2 := V1.keep b2; clear V1 b2 C0 C1; have c5 := V2.cell 0))
    refine leave_marks (B := w.heap.size) [] _ (by simp) (by simp) (by simp) (fun W' hb hx => ?_)
    exact ⟨_, by simp [results, Try.f4, go_sem], rfl, B2.trans hb⟩

theorem cells64 : Try.prog.cellsOf 3 = 1 := by kernel_rfl
theorem bytes64 : Try.prog.bytesOf 3 = 8 := by kernel_rfl
theorem i64_wf {x : Int} (h : (Lit.int .i64 x).wf = true) : I64 x := by
  simp [Lit.wf, IntKind.min, IntKind.max, IntKind.signed, IntKind.bits] at h
  exact h
theorem opened (H : Type) (enc : TypeId × Value → H) (W : World) (base : Nat) (args : Array Value) (ds : List (DataW H)) (p : List MemPlace)
    (hval : ∀ (j : Nat) t v, Try.f4.params[j]? = some t → args[j]? = some v → Value.okWide Try.prog W .any base t v)
    (hA : DataW.TrodAll enc Try.prog W 0 (fun _ => true) true Try.f4.params.toList args.toList ds p)
    (hr : ∀ x ∈ DataW.weightsEach Try.prog Try.f4.params.toList ds, x ≤ reachBytes)
    (hL : laidMetH Try.prog Rows.treeTwoWaysRow.laid W) :
    Calls Try.prog 4 args W fun e W' => e = .returned (.bool true) ∧ Below W.heap.size W W' := by
  rw [Try.params4] at hA hval hr
  have _ := hL
  obtain ⟨v0, vs0, d0, ds0, p0, q0, hargs, rfl, rfl, h0, r0⟩ := trodAll_cons hA
  obtain ⟨v1, vs1, d1, ds1, p1, q1, rfl, rfl, rfl, h1, r1⟩ := trodAll_cons r0
  obtain ⟨v2, vs2, d2, ds2, p2, q2, rfl, rfl, rfl, h2, r2⟩ := trodAll_cons r1
  obtain ⟨rfl, rfl, rfl⟩ := trodAll_nil r2
  obtain rfl : args = #[v0, v1, v2] := by cases args; simp_all
  obtain ⟨a, xs, cap, rfl, hat, hw, hl, hm, hd⟩ := open_row Try.underlying22 Try.underlying3 cells64 (hval 0 22 v0 rfl rfl) h0
  obtain ⟨u, rfl, rfl, rfl, _⟩ := open_int Try.underlying3 (hval 1 3 v1 rfl rfl) h1
  obtain ⟨v, rfl, rfl, rfl, _⟩ := open_int Try.underlying3 (hval 2 3 v2 rfl rfl) h2
  have hreach := reach_slice (n := xs.length) (cap := cap) Try.underlying22 hd (fun x hx => hr x (by simp [DataW.weightsEach, hx]))
  rw [bytes64] at hreach
  exact walk a cap xs u v W (by omega) hat (fun x hx => i64_wf (hw x hx))
end Go.Proofs.Ytmnhmlbpaebabaa.treeTwoWays
