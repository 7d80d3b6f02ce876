/- The walk of the document's Frames. -/
import Derived.Test.YtokinnkagdjciaaGreatDoorTagRDecode
import Derived.Test.YtokinnkagdjciaaGreatDoorTagSeq
namespace Go.Proofs.YtokinnkagdjciaaGreatDoor.TagW
open Go.RowKit Go.Proofs.YtokinnkagdjciaaGreatDoor.Bas Go.Proofs.YtokinnkagdjciaaGreatDoor.FixpM Go.Proofs.YtokinnkagdjciaaGreatDoor.FixpW Go.Proofs.YtokinnkagdjciaaGreatDoor.DecW Go.Proofs.YtokinnkagdjciaaGreatDoor.DecM Go.Proofs.YtokinnkagdjciaaGreatDoor.FldW Go.Proofs.YtokinnkagdjciaaGreatDoor.TagM

def icell (x : Value × Itm) : List Value := [x.1, .int .i64 x.2.2]
def icells (xs : List (Value × Itm)) : List Value := xs.flatMap icell
theorem icells_append (xs ys : List (Value × Itm)) : icells (xs ++ ys) = icells xs ++ icells ys := by simp [icells]
theorem icells_one (x : Value × Itm) : icells [x] = icell x := by simp [icells]
theorem icells_len (xs : List (Value × Itm)) : (icells xs).length = xs.length * 2 := by
  induction xs with
  | nil => rfl
  | cons x xs ih =>
    have : icells (x :: xs) = icell x ++ icells xs := rfl
    rw [this, List.length_append, ih]
    simp [icell]; omega
theorem icells_get {xs : List (Value × Itm)} {k : Nat} (h : k < xs.length) : (icells xs)[k * 2]? = some xs[k].1 ∧ (icells xs)[k * 2 + 1]? = some (.int .i64 xs[k].2.2) := by
  induction xs generalizing k with
  | nil => simp at h
  | cons x xs ih =>
    have e : icells (x :: xs) = x.1 :: .int .i64 x.2.2 :: icells xs := rfl
    cases k with
    | zero => rw [e]; exact ⟨rfl, rfl⟩
    | succ k =>
      have := ih (k := k) (by simpa using h)
      rw [e, show (k + 1) * 2 = k * 2 + 1 + 1 by omega]
      exact ⟨by simpa using this.1, by simpa using this.2⟩
theorem cellsItem : Tryz.prog.cellsOf 38 = 2 := by kernel_rfl
theorem elemI : Elem Tryz.prog 30 38 (.agg #[.slice none 0 0, .int .i64 0]) 2 32 := ⟨Tryz.underlying30, by kernel_rfl, rfl, by decide⟩
theorem own_len {W : World} {b n : Nat} {t : TypeId} {a : Option Addr} {c : Nat} {k : Nat} {L : List Value} (h : W.ownsRow b t 2 (.slice a n c) n L) (e : n = k) : W.ownsRow b t 2 (.slice a k c) n L := by subst e; exact h
theorem map_more {xs : List (Value × Itm)} {v : Value} {fs : List Fld} {e : Int} {R L : List Itm} (h : xs.map (·.2) ++ (fs, e) :: R = L) : (xs ++ [(v, (fs, e))]).map (·.2) ++ R = L := by rw [← h]; simp
/-- an item's list lies apart from a row's block -/
def Apart (o : Option Nat) (x : Value × Itm) (W : World) : Prop := ∃ a cap, x.1 = .slice a x.2.1.length cap ∧ x.2.1.length ≤ maxLen ∧ At W a (fcells x.2.1) ∧ ∀ p, a = some p → p.block < W.heap.size ∧ o ≠ some p.block
theorem Apart.hand {o : Option Nat} {x : Value × Itm} {W : World} (h : Apart o x W) : HandT x W := by
  obtain ⟨a, cap, h1, h2, h3, _⟩ := h
  exact ⟨a, cap, h1, h2, h3⟩
theorem Apart.keep {o : Option Nat} {x : Value × Itm} {A B : World} (h : Apart o x A) (b : Below A.heap.size A B) : Apart o x B := by
  obtain ⟨a, cap, h1, h2, h3, h4⟩ := h
  exact ⟨a, cap, h1, h2, h3.keep b, fun p hp => ⟨Nat.lt_of_lt_of_le (h4 p hp).1 b.size, (h4 p hp).2⟩⟩
theorem Apart.grown {o o' : Option Nat} {x : Value × Itm} {A B : World} (h : Apart o x A) (hg : A.grownBy B o) (ho : o' = o ∨ o' = some A.heap.size) : Apart o' x B := by
  obtain ⟨a, cap, h1, h2, h3, h4⟩ := h
  refine ⟨a, cap, h1, h2, fun j u hj => ?_, fun p hp => ?_⟩
  · obtain ⟨b, off, rfl, hc⟩ := h3 j u hj
    have h5 := h4 _ rfl
    refine ⟨b, off, rfl, ?_⟩
    have h6 := hg.block b h5.1 (fun e => h5.2 e.symm)
    unfold World.cell? at hc ⊢
    rw [h6]
    exact hc
  · have h5 := h4 p hp
    refine ⟨Nat.lt_of_lt_of_le h5.1 hg.size, ?_⟩
    rcases ho with rfl | rfl
    · exact h5.2
    · intro e
      injection e with e
      omega
/-- between two frames -/
def RFrR (s : List UInt8) (w : World) (rest out : Value) (wr : World) : Prop :=
  ∃ (xs : List (Value × Itm)) (r : List UInt8) (a ao : Option Addr) (cap co : Nat), rest = .slice a r.length cap ∧ out = .slice ao xs.length co ∧ Hid (Lies wr 0 w.heap.size a r) ∧ Hid (wr.ownsRow w.heap.size 38 2 out xs.length (icells xs)) ∧ Hid (∀ x ∈ xs, Apart out.ownBlock x wr) ∧ Hid (Below w.heap.size w wr) ∧ Hid (xs.map (·.2) ++ (framesR r).1 = (framesR s).1) ∧ Hid ((framesR r).2 = (framesR s).2) ∧ r.length ≤ cap ∧ xs.length + r.length ≤ s.length
set_option maxHeartbeats 2000000 in
set_option maxRecDepth 20000 in
theorem rframes_calls (s : List UInt8) (a : Option Addr) (cap : Nat) (w : World) (hl : s.length ≤ 40000) (hcap : s.length ≤ cap) (hat : At w a (u8s s)) (E : Env w) :
    Calls Tryz.prog 9 #[.slice a s.length cap] w fun e w' => (∃ xs v, e = .returned (.tuple #[v, .int .i64 ((framesR s).2 : Int)]) ∧ xs.map (·.2) = (framesR s).1 ∧ w'.ownsRow w.heap.size 38 2 v xs.length (icells xs) ∧ ∀ x ∈ xs, HandT x w') ∧ Below w.heap.size w w' := by
  have HE := Lib.hid E
  have hl0 : Lies w 0 w.heap.size a s := ⟨hat, fun hne p hp => ⟨Nat.zero_le _, by
    subst hp
    obtain ⟨b, off, e, hc⟩ := hat 0 _ (u8s_get s 0 (List.length_pos_iff.2 hne))
    cases e
    exact World.block_lt_of_cell? w _ hc⟩⟩
  have HA := Lib.hid hl0
  clear E hat hl0
  go_enter Tryz.func9, Tryz.ntmps9
  go_wp2_with fail
  go_loopw [0, 4] (RFrR s w) (fun i _ _ => sliceLen i)
  case atStart => exact ⟨[], s, a, none, cap, 0, rfl, rfl, HA.out, World.ownsRow_nil _ _ _ _, fun x hx => (List.not_mem_nil hx).elim, Below.refl _ _, by simp [Hid], rfl, hcap, by simp⟩
  case round =>
    clear HA hcap
    obtain ⟨xs, r, a, ao, cap, co, rfl, rfl, HA, HO, HX, HB, HM, HL, hc, hr⟩ := hrel
    have hpos := fun h => decode_pos (s := r) h
    have D := rdecode_calls r a cap wr (by omega) HA.out.1 (HE.out.keep HB.out)
    unfold DecV at D
    have H10 := Lib.hid (fun h => framesR_stop (s := r) h)
    have HST := Lib.hid (fun h => framesR_step (s := r) h)
    generalize decodeR r = dr at *
    obtain ⟨⟨fs, m⟩, er⟩ := dr
    simp only at D hpos H10 HST
    have D := Lib.hid D
    by_cases he : er = 10
    · subst he
      have HD := Lib.hid (show (framesR s).2 = r.length by rw [← HL.out, H10.out rfl])
      have HD2 := Lib.hid (show xs.map (·.2) = (framesR s).1 by have := HM.out; rw [H10.out rfl, List.append_nil] at this; exact this)
      clear HST hpos HM HL
      go_wp2_with (go_at_call 7; refine D.out.mono ?_; rintro e w2 ⟨⟨v2, rfl, own2⟩, b2⟩)
      exact bodyPost_ret (v := .tuple #[.slice ao xs.length co, .int .i64 (r.length : Int)]) (by simp [results, Tryz.f9, go_sem]) rfl ⟨⟨xs, _, by rw [HD.out], HD2.out, owns_below HO.out b2, fun x hx => ((HX.out x hx).keep b2).hand⟩, HB.out.trans (b2.mono HB.out.size)⟩
    · have hne : (er == 10) = false := by simpa using he
      obtain ⟨p1, p2⟩ := hpos he
      have hst := HST.out he
      have HL2 := Lib.hid (show (framesR (r.drop m)).2 = (framesR s).2 by rw [← HL.out, hst])
      have HM2 := Lib.hid (show xs.map (·.2) ++ (fs, er) :: (framesR (r.drop m)).1 = (framesR s).1 by have := HM.out; rw [hst] at this; exact this)
      obtain ⟨g, off, rfl, _⟩ := HA.out.1 0 _ (u8s_get r 0 (by omega))
      have LD := Lib.hid (HA.out.drop m)
      have hdl : (r.drop m).length = r.length - m := List.length_drop
      clear HST hpos H10 HM HL HA hst
      generalize r.drop m = r2 at *
      go_upto_region 5 with (go_at_call 7; refine D.out.mono ?_; rintro e w2 ⟨⟨v2, rfl, own2⟩, b2⟩; have B2 := HB.out.trans (b2.mono HB.out.size))
      obtain ⟨a2, c2, rfl, hmx2, hle2, at2, hlt2, _⟩ := at_of_owns own2
      have HX2 := Lib.hid (show ∀ x ∈ xs ++ [((.slice a2 fs.length c2 : Value), ((fs, er) : Itm))], Apart (Value.slice ao xs.length co).ownBlock x w2 by
        intro x hx
        rcases List.mem_append.1 hx with h | h
        · exact (HX.out x h).keep b2
        · rw [List.mem_singleton.1 h]
          refine ⟨a2, c2, rfl, Nat.le_trans hle2 hmx2, at2, fun p hp => ?_⟩
          have h1 := hlt2 p hp
          refine ⟨h1.2.2.2, fun e => ?_⟩
          have h2 := (HO.out.lt _ e).2
          omega)
      have O2 := owns_below HO.out b2
      have LD2 := Lib.hid (LD.out.span (.below b2 HB.out.size))
      clear D LD HX own2 at2 hlt2 HO b2 HB
      by_cases hcm : cap = m
      · have hr0 : r2 = [] := List.eq_nil_of_length_eq_zero (by omega)
        subst hr0
        subst hcm
        go_wp2_with (at_builtin; refine wpList_append_at _ rfl (.tmp 19) (.tmp 23) elemI rfl w.heap.size (.slice ao xs.length co) xs.length (icells xs) rfl (owns_below O2 ((Below.refl w2.heap.size w2).alloc (Nat.le_refl _) _)) (some ⟨w2.heap.size, 0, none⟩) 1 1 (icell ((.slice a2 fs.length c2 : Value), ((fs, er) : Itm))) rfl rfl (at_alloc w2 (icell ((.slice a2 fs.length c2 : Value), ((fs, er) : Itm))).toArray _ _) (by simp [icell, Value.oneCell']) (by unfold maxLen; omega) (by omega) (by have := B2.size; simp; omega) ?_; intro v9 w9 own9 bel9 g9 ob9)
        obtain ⟨a9, c9, rfl, _, _, _, _, _⟩ := at_of_owns own9
        have B9 := (B2.alloc B2.size _).trans bel9
        have HX9 := Lib.hid (fun x hx => (((HX2.out x hx).keep ((Below.refl w2.heap.size w2).alloc (Nat.le_refl _) _)).grown g9 ob9))
        have O9 : w9.ownsRow w.heap.size 38 2 (.slice a9 (xs ++ [((.slice a2 fs.length c2 : Value), ((fs, er) : Itm))]).length c9) (xs ++ [((.slice a2 fs.length c2 : Value), ((fs, er) : Itm))]).length (icells (xs ++ [((.slice a2 fs.length c2 : Value), ((fs, er) : Itm))])) := by rw [icells_append, icells_one]; simpa using own9
        have M9 := HM2.out
        go_roundw
        case rel => exact ⟨xs ++ [((.slice a2 fs.length c2 : Value), ((fs, er) : Itm))], [], some ⟨g, off, none⟩, a9, 0, c9, rfl, by simp, Lies.nil, own_len O9 (by simp), HX9.out, B9, map_more M9, HL2.out, Nat.zero_le _, by simp; omega⟩
        case measure => simp [sliceLen]; omega
      · go_wp2_with (at_builtin; refine wpList_append_at _ rfl (.tmp 19) (.tmp 23) elemI rfl w.heap.size (.slice ao xs.length co) xs.length (icells xs) rfl (owns_below O2 ((Below.refl w2.heap.size w2).alloc (Nat.le_refl _) _)) (some ⟨w2.heap.size, 0, none⟩) 1 1 (icell ((.slice a2 fs.length c2 : Value), ((fs, er) : Itm))) rfl rfl (at_alloc w2 (icell ((.slice a2 fs.length c2 : Value), ((fs, er) : Itm))).toArray _ _) (by simp [icell, Value.oneCell']) (by unfold maxLen; omega) (by omega) (by have := B2.size; simp; omega) ?_; intro v9 w9 own9 bel9 g9 ob9)
        obtain ⟨a9, c9, rfl, _, _, _, _, _⟩ := at_of_owns own9
        have B9 := (B2.alloc B2.size _).trans bel9
        have HX9 := Lib.hid (fun x hx => (((HX2.out x hx).keep ((Below.refl w2.heap.size w2).alloc (Nat.le_refl _) _)).grown g9 ob9))
        have Z9 := Lib.hid ((LD2.out.span (Span.alloc _ _ B2.size)).span (.below bel9 (Nat.le_refl _)))
        have O9 : w9.ownsRow w.heap.size 38 2 (.slice a9 (xs ++ [((.slice a2 fs.length c2 : Value), ((fs, er) : Itm))]).length c9) (xs ++ [((.slice a2 fs.length c2 : Value), ((fs, er) : Itm))]).length (icells (xs ++ [((.slice a2 fs.length c2 : Value), ((fs, er) : Itm))])) := by rw [icells_append, icells_one]; simpa using own9
        have M9 := HM2.out
        go_roundw
        case rel => exact ⟨xs ++ [((.slice a2 fs.length c2 : Value), ((fs, er) : Itm))], r2, some ⟨g, off + m, none⟩, a9, cap - m, c9, by rw [hdl], by simp, Z9.out, own_len O9 (by simp), HX9.out, B9, map_more M9, HL2.out, by omega, by simp; omega⟩
        case measure => simp [sliceLen]; omega
end Go.Proofs.YtokinnkagdjciaaGreatDoor.TagW
