/- TreeChecks: the walk, and the step from the law's argument to it. -/
import Derived.Test.YtmnhmlbpaebabaaTreeLawBase
import Derived.Test.YtmnhmlbpaebabaaBulk
namespace Go.Proofs.Ytmnhmlbpaebabaa.treeChecks
open Go.ChangeShapes Go.WideShapes Go.ChangeAt Go.RowKit Go.Shelf Go.Proofs.Ytmnhmlbpaebabaa.Bas Go.Proofs.Ytmnhmlbpaebabaa.TreeM Go.Proofs.Ytmnhmlbpaebabaa.TreeW

def acct (p : Int) : List Value := [.int .i64 p, .slice none 0 0, .bool false, .int .i64 0]
def accts (l : List Int) : List Value := l.flatMap acct
theorem accts_len (l : List Int) : (accts l).length = l.length * 4 := by
  unfold accts
  induction l with
  | nil => rfl
  | cons x r ih => simp only [List.flatMap_cons, List.length_append, ih, acct, List.length_cons, List.length_nil]; omega
theorem accts_get (l : List Int) (k j : Nat) (hk : k < l.length) (hj : j < 4) : (accts l)[k * 4 + j]? = (acct l[k])[j]? := by
  unfold accts
  induction l generalizing k with
  | nil => simp at hk
  | cons x r ih =>
    rw [List.flatMap_cons]
    cases k with
    | zero =>
      rw [List.getElem?_append_left (by simp [acct]; omega)]
      simp
    | succ k =>
      rw [List.getElem?_append_right (by simp [acct]; omega)]
      have := ih k (by simpa using hk)
      rw [show (acct x).length = 4 from rfl, show (k + 1) * 4 + j - 4 = k * 4 + j by omega, this]
      simp
theorem one_accts (l : List Int) : ∀ u ∈ accts l, u.oneCell' = true := by
  intro u hu
  simp only [accts, List.mem_flatMap, acct] at hu
  obtain ⟨p, _, hu⟩ := hu
  simp at hu
  rcases hu with rfl | rfl | rfl | rfl <;> rfl
theorem elemA : Elem Try.prog 35 37 (.agg #[.int .i64 0, .slice none 0 0, .bool false, .int .i64 0]) 4 48 := ⟨Try.underlying35, by kernel_rfl, rfl, by decide⟩

set_option maxHeartbeats 1000000 in
theorem parents_calls (a : Option Addr) (cap : Nat) (ps : List Int) (w : World) (hbig : ps.length ≤ 1048576) (hc : At w a (accts ps)) :
    Calls Try.prog 16 #[.slice a ps.length cap] w fun e w' => ∃ s, e = .returned s ∧ w'.ownsRow w.heap.size 3 1 s ps.length (i64s ps) ∧ Below w.heap.size w w' := by
  have HC := Lib.hid hc
  clear hc
  go_enter Try.func16, Try.ntmps16
  go_wp2_with fail
  go_loopw [3, 8] (fun o i wr => ∃ k : Nat, k ≤ ps.length ∧ i = .int .i64 k ∧ wr.ownsRow w.heap.size 3 1 o k (i64s (ps.take k)) ∧ Below w.heap.size w wr) (fun _ i _ => ps.length - (intOf i).toNat)
  case atStart => exact ⟨0, by omega, rfl, World.ownsRow_nil _ _ _ _, Below.refl _ _⟩
  case round =>
    obtain ⟨k, hk, rfl, own, hB⟩ := hrel
    obtain ⟨ao, co, rfl, _, _, _, _, _⟩ := at_of_owns own
    have hz := hB.size
    by_cases hlt : k < ps.length
    · have hcr := HC.out.keep hB
      obtain ⟨b, off, rfl, c0⟩ := hcr (k * 4 + 0) _ (accts_get ps k 0 hlt (by omega))
      obtain ⟨_, _, h1, c1⟩ := hcr (k * 4 + 1) _ (accts_get ps k 1 hlt (by omega))
      cases h1
      obtain ⟨_, _, h1, c2⟩ := hcr (k * 4 + 2) _ (accts_get ps k 2 hlt (by omega))
      cases h1
      obtain ⟨_, _, h1, c3⟩ := hcr (k * 4 + 3) _ (accts_get ps k 3 hlt (by omega))
      cases h1
      rw [← Nat.add_assoc] at c0 c1 c2 c3
      rw [Nat.add_zero] at c0
      clear hcr
      have hs : Hid (i64s (ps.take (k + 1)) = i64s (ps.take k) ++ [.int .i64 ps[k]]) := by
        unfold Hid i64s
        rw [List.take_succ_eq_append_getElem hlt, List.map_append]; rfl
      generalize ps[k] = x at *
      have HOwn := Lib.hid own
      have hlt2 : (ps.take k).length = k := by simp; omega
      clear own
      go_wp2_with (first | (at_builtin; refine wpList_append_at _ rfl (.tmp 12) (.tmp 15) elem64 rfl w.heap.size _ k (i64s (ps.take k)) rfl ((HOwn.out.alloc _).alloc _) (some ⟨wr.heap.size + 1, 0, none⟩) 1 1 [.int .i64 x] rfl rfl (by have := at_alloc (wr.alloc (.cells #[.int .i64 x, .slice none 0 0, .bool false, .int .i64 0] 37)) #[.int .i64 x] 3 (0, 0); simpa using this) (by simp [Value.oneCell']) (by unfold maxLen; omega) (by omega) (by simp; omega) ?_; intro v2 w3 own2 bel2 g2 ob2; have hB3 := ((hB.alloc hz _).alloc (by simp; omega) _).trans bel2))
      go_roundw
      case rel => exact ⟨k + 1, by omega, by go_num, by rw [hs.out]; exact own2, hB3⟩
      case measure => simp [intOf]; omega
    · have hkk : k = ps.length := by omega
      subst hkk
      rw [List.take_length] at own
      go_wp2_with fail
      go_ret
      exact ⟨_, rfl, own, hB⟩

set_option maxHeartbeats 2000000 in
theorem walk (a : Option Addr) (cap : Nat) (ps : List Int) (w : World) (hbig : ps.length ≤ 1048576) (hc : At w a (i64s ps)) (hx : ∀ x ∈ ps, I64 x) :
    Calls Try.prog 6 #[.slice a ps.length cap] w fun e w' => e = .returned (.bool true) ∧ Below w.heap.size w w' := by
  have C1 := Lib.hid (fun W h => check_calls a cap ps W (by omega) h hx)
  have C2 := Lib.hid (fun W h => rcheck_calls a cap ps W (by omega) h hx)
  have C0 := Lib.hid (fun W => wakes_calls W)
  have HC := Lib.hid hc
  clear hc hx
  obtain ⟨p, hp⟩ : ∃ p, p = checkF ps := ⟨_, rfl⟩
  rw [← hp] at C1 C2
  obtain ⟨p1, p2⟩ := p
  clear hp
  go_enter Try.func6, Try.ntmps6
  go_wp2_with (first
    | (go_at_call 7; refine (C0.out _).mono ?_; rintro e w1 ⟨rfl, B1⟩; have z1 := B1.size)
    | (go_at_call 14; refine (C1.out _ (HC.out.keep B1)).mono ?_; rintro e w2 ⟨rfl, hB2⟩; have B2 := B1.trans (hB2.mono z1); have z2 := B2.size)
    | (go_at_call 15; refine (C2.out _ (HC.out.keep B2)).mono ?_; rintro e w3 ⟨rfl, hB3⟩; have B3 := B2.trans (hB3.mono z2); have z3 := B3.size))
  clear C0 C1 C2 B1 B2 hB2 hB3 z1 z2
  go_loopw [7, 24] (fun o i wr => ∃ k : Nat, k ≤ ps.length ∧ i = .int .i64 k ∧ wr.ownsRow w.heap.size 37 4 o k (accts (ps.take k)) ∧ Below w.heap.size w wr) (fun _ i _ => ps.length - (intOf i).toNat)
  case atStart => exact ⟨0, by omega, rfl, World.ownsRow_nil _ _ _ _, B3⟩
  case round =>
    clear B3 z3
    obtain ⟨k, hk, rfl, own, hB⟩ := hrel
    obtain ⟨ao, co, rfl, _, _, hat, _, _⟩ := at_of_owns own
    have hz := hB.size
    by_cases hlt : k < ps.length
    · obtain ⟨b, off, rfl, hcell⟩ := (HC.out.keep hB) k _ (i64s_get ps k hlt)
      have hs : Hid (accts (ps.take (k + 1)) = accts (ps.take k) ++ acct ps[k]) := by
        unfold Hid accts
        rw [List.take_succ_eq_append_getElem hlt, List.flatMap_append]; simp
      generalize ps[k] = x at *
      have HOwn := Lib.hid own
      clear own hat
      go_wp2_with (first | (at_builtin; refine wpList_append_at _ rfl (.tmp 28) (.tmp 31) elemA rfl w.heap.size _ k (accts (ps.take k)) rfl (HOwn.out.alloc _) (some ⟨wr.heap.size, 0, none⟩) 1 1 (acct x) rfl rfl (at_alloc wr _ _ _) (by simp [acct, Value.oneCell']) (by unfold maxLen; omega) (by omega) (by simp; omega) ?_; intro v2 w3 own2 bel2 g2 ob2; have hB3 := (hB.alloc hz _).trans bel2))
      go_roundw
      case rel => exact ⟨k + 1, by omega, by go_num, by rw [hs.out]; exact own2, hB3⟩
      case measure => simp [intOf]; omega
    · have hkk : k = ps.length := by omega
      subst hkk
      rw [List.take_length] at hat
      have P := Lib.hid (parents_calls ao co ps wr hbig hat)
      have S := Lib.hid (fun W a2 c2 h h2 => same_calls a2 a c2 cap ps ps W (by omega) (by omega) h h2)
      simp only [decide_true] at S
      clear own hat
      go_wp2_with (first
        | (go_at_call 16; refine P.out.mono ?_; rintro e w4 ⟨s, rfl, own4, hB4⟩; have B4 := hB.trans (hB4.mono hz); obtain ⟨a4, c4, rfl, _, _, hat4, _, _⟩ := at_of_owns own4; clear own4)
        | (go_at_call 12; refine (S.out _ _ _ hat4 (HC.out.keep B4)).mono ?_; rintro e w5 ⟨rfl, n5, hw5⟩))
      go_ret
      exact ⟨rfl, below_drewN B4 n5⟩

theorem cells64 : Try.prog.cellsOf 3 = 1 := by kernel_rfl
theorem i64_wf {x : Int} (h : (Lit.int .i64 x).wf = true) : I64 x := by
  simp [Lit.wf, IntKind.min, IntKind.max, IntKind.signed, IntKind.bits] at h
  exact h
theorem opened (H : Type) (enc : TypeId × Value → H) (W : World) (base : Nat) (args : Array Value) (ds : List (DataW H)) (p : List MemPlace)
    (hval : ∀ (j : Nat) t v, Try.f6.params[j]? = some t → args[j]? = some v → Value.okWide Try.prog W .any base t v)
    (hA : DataW.TrodAll enc Try.prog W 0 (fun _ => true) true Try.f6.params.toList args.toList ds p)
    (hr : ∀ x ∈ DataW.weightsEach Try.prog Try.f6.params.toList ds, x ≤ reachBytes)
    (hL : laidMetH Try.prog Rows.treeChecksUptoRow.laid W) (hk : Rows.uptoSmall H ds = true) :
    Calls Try.prog 6 args W fun e W' => e = .returned (.bool true) ∧ Below W.heap.size W W' := by
  rw [Try.params6] at hA hval hr
  have _ := hL
  obtain ⟨v0, vs0, d0, ds0, p0, q0, hargs, rfl, rfl, h0, r0⟩ := trodAll_cons hA
  obtain ⟨rfl, rfl, rfl⟩ := trodAll_nil r0
  obtain rfl : args = #[v0] := by cases args; simp_all
  obtain ⟨a, xs, cap, rfl, hat, hw, hl, hm, hd⟩ := open_row Try.underlying22 Try.underlying3 cells64 (hval 0 22 v0 rfl rfl) h0
  have hbig : xs.length ≤ 1048576 := by
    have h := bulk_le hk
    simp only [Rows.uptoBulkAll] at h
    have e0 := bulk_slice hd
    omega
  exact walk a cap xs W hbig hat (fun x hx => i64_wf (hw x hx))
end Go.Proofs.Ytmnhmlbpaebabaa.treeChecks
