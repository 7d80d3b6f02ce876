/- A ledger of the call's own, an account more; the document's First. -/
import Derived.Test.YtmimhimlgbklpaaGreatDoorLedFirst
import Derived.Test.YtmimhimlgbklpaaGreatDoorBaseApp
set_option linter.unusedSimpArgs false
set_option linter.unusedVariables false
namespace Go.Proofs.YtmimhimlgbklpaaGreatDoor.LedW
open Go.RowKit Go.Proofs.YtmimhimlgbklpaaGreatDoor.Bas Go.Proofs.YtmimhimlgbklpaaGreatDoor.LedM

theorem own_grown {W W' : World} {b : Nat} {e : TypeId} {z : Nat} {v v' : Value} {n : Nat} {xs : List Value} (h : W.ownsRow b e z v n xs) (hg : W.grownBy W' v'.ownBlock) (ha : Apart v v') : W'.ownsRow b e z v n xs := by
  refine h.kept hg ?_
  cases hb : v.ownBlock with
  | none => exact .inl rfl
  | some g =>
    refine .inr fun e => ?_
    exact ha g hb e.symm
/-- the list of accounts has grown by one whose cash lies by itself -/
theorem LedOwn.push {base : Nat} {W W' : World} {s : Lists} {l : Led} {us : List (Value × Acc)} (h : LedOwn base W s l us) {cv : Value} {a : Acc} (hc : W.ownsRow base 3 1 cv a.cash.length (i64s a.cash)) (hx : ∀ x ∈ us, Apart x.1 cv) (hv : Apart (.slice s.a7 l.avail.length s.c7) cv)
    {n4 : Option Addr} {k4 : Nat} (hown : W'.ownsRow base 39 4 (.slice n4 (l.accts.length + 1) k4) (l.accts.length + 1) (us.flatMap accC ++ accC (cv, a))) (hg : W.grownBy W' (Value.slice s.a4 l.accts.length s.c4).ownBlock) :
    LedOwn base W' { s with a4 := n4, c4 := k4 } { l with accts := l.accts ++ [a] } (us ++ [(cv, a)]) := by
  have far : ∀ {b e z v' n xs}, W.ownsRow b e z v' n xs → e ≠ 39 → W'.ownsRow b e z v' n xs := fun hh hne => own_grown hh hg (own_kinds hh h.accts hne)
  refine ⟨far h.curs (by decide), far h.unders (by decide), far h.instrs (by decide), ?_, far h.poss (by decide), far h.orders (by decide), far h.avail (by decide), far h.locs (by decide), ?_, ?_, ?_, ?_⟩
  · show W'.ownsRow base 39 4 (.slice n4 (l.accts ++ [a]).length k4) (l.accts ++ [a]).length ((us ++ [(cv, a)]).flatMap accC)
    rw [List.length_append, List.flatMap_append]
    simpa using hown
  · show (us ++ [(cv, a)]).map (·.2) = l.accts ++ [a]
    rw [List.map_append, h.each]; rfl
  · intro x hx
    rcases List.mem_append.1 hx with hx | hx
    · exact far (h.cash x hx) (by decide)
    · rw [List.mem_singleton.1 hx]
      exact far hc (by decide)
  · rw [List.pairwise_append]
    exact ⟨h.dist, by simp, fun x hx' y hy => by rw [List.mem_singleton.1 hy]; exact hx x hx'⟩
  · intro x hx'
    rcases List.mem_append.1 hx' with hx' | hx'
    · exact h.free x hx'
    · rw [List.mem_singleton.1 hx']; exact hv
theorem apart_new {W : World} {b b' : Nat} {e e' : TypeId} {z z' : Nat} {v v' : Value} {n n' : Nat} {xs xs' : List Value} (h : W.ownsRow b e z v n xs) {W' : World} (h' : W'.ownsRow b' e' z' v' n' xs') (hb : W.heap.size ≤ b') : Apart v v' := fun g h1 h2 => by
  have a1 := (h.lt g h1).2
  have a2 := (h'.lt g h2).1
  omega
/-- the document's beginning, as far as it has come -/
def rfirstL (k : Nat) : Led := ⟨0, [(1000000, 0)], [], [], List.replicate k ⟨-1, [0], false, 0⟩, [], [], [], []⟩
set_option maxHeartbeats 2000000 in
theorem rfirst_calls (w : World) : Calls Tryz.prog 11 #[] w fun e w' => ∃ s us, e = .returned (ledV s firstL) ∧ LedOwn w.heap.size w' s firstL us ∧ Below w.heap.size w w' := by
  go_enter Tryz.func11, Tryz.ntmps11
  go_upto_region 2 with fail
  change Code.wp _ _ _ _ ((w.alloc (.cells zeroL 31)).alloc (.cells zeroL 31))
  have X0 := (Box.new w 31 zeroL).alloc (.cells zeroL 31)
  have X1 := Box.new (w.alloc (.cells zeroL 31)) 31 zeroL
  rw [World.size_alloc] at X1
  have L0 := ((Below.refl w.heap.size w).alloc (Nat.le_refl _) (.cells zeroL 31)).alloc (by simp) (.cells zeroL 31)
  generalize (w.alloc (.cells zeroL 31)).alloc (.cells zeroL 31) = w0 at *
  have e1 : w0.cell? ⟨w.heap.size + 1, 1, none⟩ = some (.slice none 0 0) := X1.cell 1
  have L1 := L0.alloc L0.size (.cells #[.int .i64 1000000, .int .i64 0] 49)
  have Y0 := X0.alloc (.cells #[.int .i64 1000000, .int .i64 0] 49)
  have Y1 := X1.alloc (.cells #[.int .i64 1000000, .int .i64 0] 49)
  have HX := Lib.hid (And.intro L1 (And.intro Y0 Y1))
  clear L0 L1 X0 X1 Y0 Y1
  go_wp2_with (first | (at_builtin; refine wpList_append_at _ rfl (.tmp 5) (.tmp 7) elem_cur rfl (w0.alloc (.cells #[.int .i64 1000000, .int .i64 0] 49)).heap.size (.slice none 0 0) 0 [] rfl (World.ownsRow_nil _ _ _ _) (some ⟨w0.heap.size, 0, none⟩) 1 1 [.int .i64 1000000, .int .i64 0] rfl rfl (at_alloc w0 #[.int .i64 1000000, .int .i64 0] _ _) (by simp [Value.oneCell']) (by decide) (by decide) (Nat.le_refl _) ?_; intro v2 w2 own2 bel2 _ _; obtain ⟨p1, q1, rfl, _⟩ := at_of_owns own2; have Z0 := HX.out.2.1.keep bel2; have Z1 := HX.out.2.2.keep bel2; have LL := HX.out.1.trans (bel2.mono HX.out.1.size); replace own2 := own2.mono HX.out.1.size; clear bel2; have ck : w2.cell? ⟨w.heap.size + 1, 1, none⟩ = some (.slice none 0 0) := Z1.cell 1; have fk := Z1.frozen 1))
  clear ck fk e1
  have O1 := own_box own2 Z1 (k := 1) (u := .slice p1 1 q1) (by decide)
  have A1 := Z1.set 1 (.slice p1 1 q1)
  have A0 := Z0.far (p := ⟨w.heap.size + 1, 1, none⟩) (by simp) (.slice p1 1 q1)
  have LA := LL.setCell (p := ⟨w.heap.size + 1, 1, none⟩) (by simp) (.slice p1 1 q1)
  clear own2 Z0 Z1 LL HX
  generalize w2.setCell ⟨w.heap.size + 1, 1, none⟩ (.slice p1 1 q1) = w3 at *
  have HO : LedOwn w.heap.size w3 ⟨p1, q1, none, 0, none, 0, none, 0, none, 0, none, 0, none, 0, none, 0⟩ (rfirstL 0) [] :=
    ⟨O1, World.ownsRow_nil _ _ _ _, World.ownsRow_nil _ _ _ _, World.ownsRow_nil _ _ _ _, World.ownsRow_nil _ _ _ _, World.ownsRow_nil _ _ _ _, World.ownsRow_nil _ _ _ _, World.ownsRow_nil _ _ _ _, rfl, by simp, by simp, by simp⟩
  clear O1
  go_loopw [2] (fun i wr => ∃ (k : Nat) (p4 : Option Addr) (q4 : Nat) (us : List (Value × Acc)), k ≤ 2 ∧ i = .int .i64 (k : Int) ∧ Box wr (w.heap.size + 1) 31 #[.int .i64 0, .slice p1 1 q1, .slice none 0 0, .slice none 0 0, .slice p4 k q4, .slice none 0 0, .slice none 0 0, .slice none 0 0, .slice none 0 0] ∧ Box wr w.heap.size 31 zeroL ∧ Below w.heap.size w wr ∧ LedOwn w.heap.size wr ⟨p1, q1, none, 0, none, 0, p4, q4, none, 0, none, 0, none, 0, none, 0⟩ (rfirstL k) us) (fun i _ => 2 - (intOf i).toNat)
  case atStart => exact ⟨0, none, 0, [], by omega, rfl, by simpa [zeroL] using A1, A0, LA, HO⟩
  case round =>
    clear A1 A0 LA HO
    obtain ⟨k, p4, q4, us, hk, rfl, X1, X0, L, HO⟩ := hrel
    by_cases hlt : k < 2
    · have e4 : wr.cell? ⟨w.heap.size + 1, 4, none⟩ = some (.slice p4 k q4) := X1.cell 4
      have hk' : (rfirstL k).accts.length = k := List.length_replicate
      have z := L.size
      have HB := ((HO.below ((Below.refl _ _).alloc (Nat.le_refl _) (.cells #[.int .i64 0] 3))).below ((Below.refl _ _).alloc (Nat.le_refl _) (.cells #[.int .i64 (-1), .slice (some ⟨wr.heap.size, 0, none⟩) 1 1, .bool false, .int .i64 0] 39)))
      have hc := box_owns ((Box.new wr 3 #[.int .i64 0]).alloc (.cells #[.int .i64 (-1), .slice (some ⟨wr.heap.size, 0, none⟩) 1 1, .bool false, .int .i64 0] 39)) (base := wr.heap.size) (Nat.le_refl _) 1 (by decide) (size := 1) rfl
      have hx : ∀ x ∈ us, Apart x.1 (.slice (some ⟨wr.heap.size, 0, none⟩) 1 1) := fun x hx => apart_new (HO.cash x hx) hc (Nat.le_refl _)
      have hv := apart_new HO.avail hc (Nat.le_refl _)
      have HR := HB.accts
      rw [hk'] at HR
      have Y1 := (X1.alloc (.cells #[.int .i64 0] 3)).alloc (.cells #[.int .i64 (-1), .slice (some ⟨wr.heap.size, 0, none⟩) 1 1, .bool false, .int .i64 0] 39)
      have Y0 := (X0.alloc (.cells #[.int .i64 0] 3)).alloc (.cells #[.int .i64 (-1), .slice (some ⟨wr.heap.size, 0, none⟩) 1 1, .bool false, .int .i64 0] 39)
      have LB := (L.alloc z (.cells #[.int .i64 0] 3)).alloc (by simp; omega) (.cells #[.int .i64 (-1), .slice (some ⟨wr.heap.size, 0, none⟩) 1 1, .bool false, .int .i64 0] 39)
      have hnew : At ((wr.alloc (.cells #[.int .i64 0] 3)).alloc (.cells #[.int .i64 (-1), .slice (some ⟨wr.heap.size, 0, none⟩) 1 1, .bool false, .int .i64 0] 39)) (some ⟨wr.heap.size + 1, 0, none⟩) [.int .i64 (-1), .slice (some ⟨wr.heap.size, 0, none⟩) 1 1, .bool false, .int .i64 0] := by
        have := at_alloc (wr.alloc (.cells #[.int .i64 0] 3)) #[.int .i64 (-1), .slice (some ⟨wr.heap.size, 0, none⟩) 1 1, .bool false, .int .i64 0] 39 (0, 0)
        simpa using this
      have hc2 := hc.mono z
      have HH := Lib.hid (And.intro HB (And.intro hc2 (And.intro hx (And.intro hv (And.intro HR (And.intro Y1 (And.intro Y0 (And.intro LB (And.intro hnew hk')))))))))
      have hz : w.heap.size ≤ ((wr.alloc (.cells #[.int .i64 0] 3)).alloc (.cells #[.int .i64 (-1), .slice (some ⟨wr.heap.size, 0, none⟩) 1 1, .bool false, .int .i64 0] 39)).heap.size := by simp; omega
      have HZ := Lib.hid hz
      clear HB hc hc2 hx hv HR Y1 Y0 LB hnew hk' X1 X0 L HO hz
      go_wp2_with (first | (at_builtin; refine wpList_append_at _ rfl (.tmp 15) (.tmp 18) (⟨Tryz.underlying25, by kernel_rfl, rfl, by decide⟩ : Elem Tryz.prog 25 39 (.agg #[.int .i64 0, .slice none 0 0, .bool false, .int .i64 0]) 4 48) rfl w.heap.size (.slice p4 k q4) k (us.flatMap accC) rfl HH.out.2.2.2.2.1 (some ⟨wr.heap.size + 1, 0, none⟩) 1 1 [.int .i64 (-1), .slice (some ⟨wr.heap.size, 0, none⟩) 1 1, .bool false, .int .i64 0] rfl rfl HH.out.2.2.2.2.2.2.2.2.1 (by simp [Value.oneCell']) (by unfold maxLen; omega) (by omega) HZ.out ?_; intro v4 w4 own4 bel4 g4 _; obtain ⟨p5, q5, rfl, _⟩ := at_of_owns own4; have Z1 := box_grown HH.out.2.2.2.2.2.1 HH.out.2.2.2.2.1 (by decide) g4; have Z0 := box_grown HH.out.2.2.2.2.2.2.1 HH.out.2.2.2.2.1 (by decide) g4; have LL := HH.out.2.2.2.2.2.2.2.1.trans bel4; have P := Lib.hid (HH.out.1.push (a := ⟨-1, [0], false, 0⟩) HH.out.2.1 HH.out.2.2.1 HH.out.2.2.2.1 (n4 := p5) (k4 := q5) (by rw [HH.out.2.2.2.2.2.2.2.2.2]; exact own4) (by rw [HH.out.2.2.2.2.2.2.2.2.2]; exact g4)); clear own4 bel4 g4; have ck : w4.cell? ⟨w.heap.size + 1, 4, none⟩ = some (.slice p4 k q4) := Z1.cell 4; have fk := Z1.frozen 4))
      have PP := P.out
      rw [show ({ rfirstL k with accts := (rfirstL k).accts ++ [⟨-1, [0], false, 0⟩] } : Led) = rfirstL (k + 1) by simp [rfirstL, List.replicate_succ']] at PP
      have HP := Lib.hid PP
      clear ck fk e4 P PP HH HZ
      go_roundw
      case rel => exact ⟨k + 1, p5, q5, _, by omega, by go_num, by simpa using Z1.set 4 (.slice p5 (k + 1) q5), Z0.far (by simp) _, LL.setCell (by simp) _, HP.out.box Z1 4 _⟩
      case measure => simp [intOf]; omega
    · obtain rfl : k = 2 := by omega
      have c0 : wr.cell? ⟨w.heap.size + 1, 0, none⟩ = some (.int .i64 0) := X1.cell 0
      have c1 : wr.cell? ⟨w.heap.size + 1, 1, none⟩ = some (.slice p1 1 q1) := X1.cell 1
      have c2 : wr.cell? ⟨w.heap.size + 1, 2, none⟩ = some (.slice none 0 0) := X1.cell 2
      have c3 : wr.cell? ⟨w.heap.size + 1, 3, none⟩ = some (.slice none 0 0) := X1.cell 3
      have c4 : wr.cell? ⟨w.heap.size + 1, 4, none⟩ = some (.slice p4 2 q4) := X1.cell 4
      have c5 : wr.cell? ⟨w.heap.size + 1, 5, none⟩ = some (.slice none 0 0) := X1.cell 5
      have c6 : wr.cell? ⟨w.heap.size + 1, 6, none⟩ = some (.slice none 0 0) := X1.cell 6
      have c7 : wr.cell? ⟨w.heap.size + 1, 7, none⟩ = some (.slice none 0 0) := X1.cell 7
      have c8 : wr.cell? ⟨w.heap.size + 1, 8, none⟩ = some (.slice none 0 0) := X1.cell 8
      have f0 : wr.cell? ⟨w.heap.size, 0, none⟩ = some (.int .i64 0) := X0.cell 0
      have r0 : wr.frozen? ⟨w.heap.size, 0, none⟩ = false := X0.frozen 0
      have f1 : wr.cell? ⟨w.heap.size, 1, none⟩ = some (.slice none 0 0) := X0.cell 1
      have r1 : wr.frozen? ⟨w.heap.size, 1, none⟩ = false := X0.frozen 1
      have f2 : wr.cell? ⟨w.heap.size, 2, none⟩ = some (.slice none 0 0) := X0.cell 2
      have r2 : wr.frozen? ⟨w.heap.size, 2, none⟩ = false := X0.frozen 2
      have f3 : wr.cell? ⟨w.heap.size, 3, none⟩ = some (.slice none 0 0) := X0.cell 3
      have r3 : wr.frozen? ⟨w.heap.size, 3, none⟩ = false := X0.frozen 3
      have f4 : wr.cell? ⟨w.heap.size, 4, none⟩ = some (.slice none 0 0) := X0.cell 4
      have r4 : wr.frozen? ⟨w.heap.size, 4, none⟩ = false := X0.frozen 4
      have f5 : wr.cell? ⟨w.heap.size, 5, none⟩ = some (.slice none 0 0) := X0.cell 5
      have r5 : wr.frozen? ⟨w.heap.size, 5, none⟩ = false := X0.frozen 5
      have f6 : wr.cell? ⟨w.heap.size, 6, none⟩ = some (.slice none 0 0) := X0.cell 6
      have r6 : wr.frozen? ⟨w.heap.size, 6, none⟩ = false := X0.frozen 6
      have f7 : wr.cell? ⟨w.heap.size, 7, none⟩ = some (.slice none 0 0) := X0.cell 7
      have r7 : wr.frozen? ⟨w.heap.size, 7, none⟩ = false := X0.frozen 7
      have f8 : wr.cell? ⟨w.heap.size, 8, none⟩ = some (.slice none 0 0) := X0.cell 8
      have r8 : wr.frozen? ⟨w.heap.size, 8, none⟩ = false := X0.frozen 8
      have H0 := Lib.hid X0
      have HH := Lib.hid HO
      clear X0 X1 HO
      go_wp2_with fail
      clear c0 c1 c2 c3 c4 c5 c6 c7 c8 f0 f1 f2 f3 f4 f5 f6 f7 f8 r0 r1 r2 r3 r4 r5 r6 r7 r8
      exact bodyPost_ret (results_cell (by rfl) _ _ (fill_box H0.out _ _ _ _ _ _ _ _ _) Tryz.underlying31 rfl (by kernel_rfl) rfl) rfl ⟨⟨p1, q1, none, 0, none, 0, p4, q4, none, 0, none, 0, none, 0, none, 0⟩, us, rfl, fill_own HH.out H0.out _ _ _ _ _ _ _ _ _, fill_low L (Nat.le_refl _) _ _ _ _ _ _ _ _ _⟩
end Go.Proofs.YtmimhimlgbklpaaGreatDoor.LedW
