/- The walk of the document's Fields. -/
import Derived.Test.YtbpndiegbfpigaaDoorPortFields
namespace Go.Proofs.YtbpndiegbfpigaaDoor.PortW
open Go.RowKit Go.Proofs.YtbpndiegbfpigaaDoor.Bas Go.Proofs.YtbpndiegbfpigaaDoor.DecM Go.Proofs.YtbpndiegbfpigaaDoor.FixpM Go.Proofs.YtbpndiegbfpigaaDoor.FixpW Go.Proofs.YtbpndiegbfpigaaDoor.DecW Go.Proofs.YtbpndiegbfpigaaDoor.FldW Go.Proofs.YtbpndiegbfpigaaDoor.PortM

set_option maxHeartbeats 4000000 in
theorem number_calls (v : Ev) (t : Int) (w : World) :
    Calls Tryd.prog 26 #[.agg (Ev.cells v), .int .i64 t] w fun e w' => e = .returned (.int .i64 (num v t)) ∧ Below w.heap.size w w' := by
  have X0 := Box.new w 23 (Ev.cells v)
  have B0 := (Below.refl w.heap.size w).alloc (Nat.le_refl _) (.cells (Ev.cells v) 23)
  by_cases h1 : t = 1
  · subst h1
    rw [show num v 1 = v.acct from rfl]
    have c0 := X0.cell 1
    rw [show (Ev.cells v)[1]? = some (.int .i64 v.acct) from rfl] at c0
    go_enter Tryd.func26, Tryd.ntmps26
    go_wp2_with fail
    go_ret
    exact ⟨rfl, B0⟩
  by_cases h11 : t = 11
  · subst h11
    rw [show num v 11 = v.id from rfl]
    have c0 := X0.cell 2
    rw [show (Ev.cells v)[2]? = some (.int .i64 v.id) from rfl] at c0
    go_enter Tryd.func26, Tryd.ntmps26
    go_wp2_with fail
    go_ret
    exact ⟨rfl, B0⟩
  by_cases h12 : t = 12
  · subst h12
    rw [show num v 12 = v.amount from rfl]
    have c0 := X0.cell 9
    rw [show (Ev.cells v)[9]? = some (.int .i64 v.amount) from rfl] at c0
    go_enter Tryd.func26, Tryd.ntmps26
    go_wp2_with fail
    go_ret
    exact ⟨rfl, B0⟩
  by_cases h15 : t = 15
  · subst h15
    rw [show num v 15 = v.cur from rfl]
    have c0 := X0.cell 6
    rw [show (Ev.cells v)[6]? = some (.int .i64 v.cur) from rfl] at c0
    go_enter Tryd.func26, Tryd.ntmps26
    go_wp2_with fail
    go_ret
    exact ⟨rfl, B0⟩
  by_cases h38 : t = 38
  · subst h38
    rw [show num v 38 = v.qty from rfl]
    have c0 := X0.cell 7
    rw [show (Ev.cells v)[7]? = some (.int .i64 v.qty) from rfl] at c0
    go_enter Tryd.func26, Tryd.ntmps26
    go_wp2_with fail
    go_ret
    exact ⟨rfl, B0⟩
  by_cases h41 : t = 41
  · subst h41
    rw [show num v 41 = v.new from rfl]
    have c0 := X0.cell 3
    rw [show (Ev.cells v)[3]? = some (.int .i64 v.new) from rfl] at c0
    go_enter Tryd.func26, Tryd.ntmps26
    go_wp2_with fail
    go_ret
    exact ⟨rfl, B0⟩
  by_cases h44 : t = 44
  · subst h44
    rw [show num v 44 = v.price from rfl]
    have c0 := X0.cell 8
    rw [show (Ev.cells v)[8]? = some (.int .i64 v.price) from rfl] at c0
    go_enter Tryd.func26, Tryd.ntmps26
    go_wp2_with fail
    go_ret
    exact ⟨rfl, B0⟩
  by_cases h55 : t = 55
  · subst h55
    rw [show num v 55 = v.instr from rfl]
    have c0 := X0.cell 4
    rw [show (Ev.cells v)[4]? = some (.int .i64 v.instr) from rfl] at c0
    go_enter Tryd.func26, Tryd.ntmps26
    go_wp2_with fail
    go_ret
    exact ⟨rfl, B0⟩
  rw [show num v t = v.under by unfold num; simp [h1, h11, h12, h15, h38, h41, h44, h55]]
  have c0 := X0.cell 5
  rw [show (Ev.cells v)[5]? = some (.int .i64 v.under) from rfl] at c0
  go_enter Tryd.func26, Tryd.ntmps26
  go_wp2_with fail
  go_ret
  exact ⟨rfl, B0⟩
theorem _root_.Go.Proofs.YtbpndiegbfpigaaDoor.Bas.Box.cells12 {w : World} {g : Nat} {t : TypeId} {v : Ev} (h : Box w g t (Ev.cells v)) : w.cell? ⟨g, 0, none⟩ = some (.int .i64 v.kind) ∧ w.cell? ⟨g, 1, none⟩ = some (.int .i64 v.acct) ∧ w.cell? ⟨g, 2, none⟩ = some (.int .i64 v.id) ∧ w.cell? ⟨g, 3, none⟩ = some (.int .i64 v.new) ∧ w.cell? ⟨g, 4, none⟩ = some (.int .i64 v.instr) ∧ w.cell? ⟨g, 5, none⟩ = some (.int .i64 v.under) ∧ w.cell? ⟨g, 6, none⟩ = some (.int .i64 v.cur) ∧ w.cell? ⟨g, 7, none⟩ = some (.int .i64 v.qty) ∧ w.cell? ⟨g, 8, none⟩ = some (.int .i64 v.price) ∧ w.cell? ⟨g, 9, none⟩ = some (.int .i64 v.amount) ∧ w.cell? ⟨g, 10, none⟩ = some (.bool v.call) ∧ w.cell? ⟨g, 11, none⟩ = some (.string ⟨v.name.toArray⟩) :=
  ⟨h.cell 0, h.cell 1, h.cell 2, h.cell 3, h.cell 4, h.cell 5, h.cell 6, h.cell 7, h.cell 8, h.cell 9, h.cell 10, h.cell 11⟩
/-- between two bytes of a name -/
def ScanN (l : List UInt8) (W : World) (i : Value) (wr : World) : Prop := ∃ n : Nat, n ≤ l.length ∧ i = .int .i64 n ∧ (∀ m (h : m < l.length), m < n → l[m] ≠ 1) ∧ wr = W
theorem ScanN.mk {l : List UInt8} {W : World} {n : Nat} (h1 : n ≤ l.length) (h2 : ∀ m (h : m < l.length), m < n → l[m] ≠ 1) : ScanN l W (.int .i64 n) W := ⟨n, h1, rfl, h2, rfl⟩
theorem byte1 {c : UInt8} : ((c.toNat : Int) == 1) = decide (c = 1) := by
  rw [Bool.eq_iff_iff]
  simp
  constructor
  · intro h; exact UInt8.toNat_inj.1 (by have : (1 : UInt8).toNat = 1 := rfl; omega)
  · rintro rfl; rfl
theorem kinds_ext (j : Nat) (h : j < 16) : (⟨#[68, 70, 71, 56, 87, 82, 67, 65, 85, 73, 76, 66, 83, 86, 78, 69]⟩ : ByteArray).extract j (j + 1) = ⟨#[kindsL.getD j 0]⟩ := by
  rcases (by omega : j = 0 ∨ j = 1 ∨ j = 2 ∨ j = 3 ∨ j = 4 ∨ j = 5 ∨ j = 6 ∨ j = 7 ∨ j = 8 ∨ j = 9 ∨ j = 10 ∨ j = 11 ∨ j = 12 ∨ j = 13 ∨ j = 14 ∨ j = 15) with rfl | rfl | rfl | rfl | rfl | rfl | rfl | rfl | rfl | rfl | rfl | rfl | rfl | rfl | rfl | rfl <;> rfl
set_option maxHeartbeats 4000000 in
set_option maxRecDepth 20000 in
theorem rfields_calls (v : Ev) (w : World) (hf : Ev.Fine v) :
    Calls Tryd.prog 8 #[.agg (Ev.cells v)] w fun e w' => ∃ a cap, e = .returned (.tuple #[.slice a (fieldsR v).1.length cap, .int .i64 (fieldsR v).2]) ∧ w'.ownsRow w.heap.size 41 2 (.slice a (fieldsR v).1.length cap) (fieldsR v).1.length (fcells (fieldsR v).1) ∧ Below w.heap.size w w' := by
  have HF := Lib.hid hf
  have hkb := hf.kind
  unfold I64 at hkb
  clear hf
  go_enter Tryd.func8, Tryd.ntmps8
  have X0 := Box.new w 23 (Ev.cells v)
  have B0 := (Below.refl w.heap.size w).alloc (Nat.le_refl _) (.cells (Ev.cells v) 23)
  go_upto_region 1 with fail
  generalize w.alloc (.cells (Ev.cells v) 23) = w1 at *
  have c0 : w1.cell? ⟨w.heap.size, 0, none⟩ = some (.int .i64 v.kind) := X0.cell 0
  by_cases hk : v.kind < 1 ∨ 16 < v.kind
  · have hR := Lib.hid (fieldsR_kind hk)
    rcases hk with hk | hk
    · go_wp2_with fail
      go_ret2
      refine ⟨none, 0, by rw [hR.out]; rfl, by rw [hR.out]; exact World.ownsRow_nil _ _ _ _, B0⟩
    · have hk' : ¬ v.kind < 1 := by omega
      go_wp2_with fail
      go_ret2
      refine ⟨none, 0, by rw [hR.out]; rfl, by rw [hR.out]; exact World.ownsRow_nil _ _ _ _, B0⟩
  obtain ⟨j, hj⟩ : ∃ j : Nat, v.kind = (j : Int) + 1 := ⟨(v.kind - 1).toNat, by omega⟩
  have hj16 : j < 16 := by omega
  have hTg := fun W => rtags_calls v.kind W
  have htb : typeB v.kind = kindsL.getD j 0 := by unfold typeB; rw [hj]; congr 1; omega
  obtain ⟨ts, hts⟩ : ∃ ts, ts = tagsF v.kind := ⟨_, rfl⟩
  obtain ⟨tb, htb2⟩ : ∃ tb, tb = typeB v.kind := ⟨_, rfl⟩
  have hl6 := tagsF_len v.kind
  have hR1 := Lib.hid (fun (h : AllOk v (tagsF v.kind)) => fieldsR_ok hk h)
  have hR2 := Lib.hid (fun (i : Nat) (h1 : i < (tagsF v.kind).length) h2 h3 => fieldsR_bad (v := v) (j := i) hk h1 h2 h3)
  rw [← htb2] at hR1 htb
  rw [← hts] at hR1 hR2 hTg hl6
  rw [hj] at c0 hTg
  have HTg := Lib.hid hTg
  have HTB := Lib.hid htb
  have hlo : ¬ ((j : Int) + 1 < 1) := by omega
  have hhi : ¬ (16 < (j : Int) + 1) := by omega
  clear htb hk hkb hj hts htb2 hTg
  go_upto_region 4 with fail
  clear hlo hhi
  have hj0 : (0 : Int) ≤ (j : Int) := by omega
  have hj1 : (j : Int) < 16 := by omega
  have hw1 : IntKind.i64.wrap ((j : Int) + 1 - 1) = (j : Int) := by rw [IntWalk.i64_in _ (by omega)]; omega
  have hz0 := X0.lt
  have hEx := kinds_ext j hj16
  rw [← HTB.out] at hEx
  go_wp2_with (first
    | (at_builtin; refine wpList_append_at _ rfl (.tmp 19) (.tmp 27) elemF rfl w.heap.size (.slice none 0 0) 0 [] rfl (World.ownsRow_nil _ _ _ _) (some ⟨w1.heap.size, 0, none⟩) 1 1 (fcell (35, [tb])) rfl rfl (at_alloc w1 (fcell (35, [tb])).toArray _ _) (by simp [fcell, Value.oneCell']) (by unfold maxLen; omega) (by omega) (by simp; omega) ?_; intro v5 w5 own5 bel5 g5 ob5; simp only [Nat.zero_add, List.nil_append] at own5; have X5 : Box w5 w.heap.size 23 (Ev.cells v) := box_grown (X0.alloc _) g5 (by simp [Value.ownBlock]); have B5 := (B0.alloc B0.size _).trans bel5; have c5 := (X5.cell 0).trans ((X0.cell 0).symm.trans c0))
    | (go_at_call 24; refine (HTg.out _).mono ?_; rintro e w7 ⟨a7, c7, rfl, at7, fr7, b7⟩))
  have X7 := X5.keep b7
  have own7 := owns_below own5 b7
  have B7 := B5.trans (b7.mono B5.size)
  obtain ⟨a5, c5', rfl, _, hc5, _, hlt5, _⟩ := at_of_owns own5
  have hne : ∀ b off s, a7 = some ⟨b, off, s⟩ → (Value.slice a5 1 c5').ownBlock ≠ some b := fun b off s e e2 => by
    have h1 := fr7 b off s e
    cases a5 with
    | none => simp [Value.ownBlock] at e2
    | some g => simp [Value.ownBlock] at e2; have := (hlt5 g rfl).2.2.2; omega
  have hng : (Value.slice a5 1 c5').ownBlock ≠ some w.heap.size := fun e2 => by
    rcases ob5 with h | h
    · rw [h] at e2; simp [Value.ownBlock] at e2
    · rw [h] at e2; simp at e2; omega
  clear X5 own5 B5 b7 c5 HTg X0 B0 c0 hw1 hEx hj0 hj1 bel5 g5
  go_loopw [4, 33] (LoopR w v w.heap.size a7 ts tb) (fun _ i _ => ts.length - (intOf i).toNat)
  case atStart => exact ⟨0, Nat.zero_le _, rfl, own7, (fun t h => by simp at h), X7, at7, hne, hng, B7⟩
  case round =>
    clear X7 own7 B7 hne hng at7
    obtain ⟨k, hk, rfl, own, hok, hbx, hat, hne, hng, hB⟩ := hrel
    obtain ⟨ao, co, rfl, _, hco, _, _, _⟩ := at_of_owns own
    by_cases hlt : k < ts.length
    · obtain ⟨b, off, rfl, hcell⟩ := hat k _ (i64s_get ts k hlt)
      obtain ⟨t, htk⟩ : ∃ t, t = ts[k] := ⟨_, rfl⟩
      rw [← htk] at hcell
      have HTK := Lib.hid htk.symm
      have hE := fun (h : (one v t).1 ≠ 0) => hR2.out k hlt hok (by rw [← htk]; exact h)
      rw [← htk] at hE
      have hz := hB.size
      have OWN := Lib.hid own
      have HBX := Lib.hid hbx
      have HAT := Lib.hid hat
      have HB := Lib.hid hB
      have HE := Lib.hid hE
      clear htk hE own hbx hat hB
      have hlt0 := HBX.out.lt
      have hne0 : w.heap.size ≠ wr.heap.size := by omega
      go_upto_region 9 with fail
      have XF := Box.new wr 41 #[.int .i64 t, .string ⟨#[]⟩]
      have bF := (Below.refl wr.heap.size wr).alloc (Nat.le_refl _) (.cells #[.int .i64 t, .string ⟨#[]⟩] 41)
      have XE := HBX.out.alloc (.cells #[.int .i64 t, .string ⟨#[]⟩] 41)
      generalize wr.alloc (.cells #[.int .i64 t, .string ⟨#[]⟩] 41) = W at *
      have f0 := XF.cell 0
      have f1 := XF.cell 1
      have fz := XF.frozen 1
      have hWz := bF.size
      by_cases h107 : t = 107
      · subst h107
        have cN := XE.cell 11
        rw [show (Ev.cells v)[11]? = some (.string ⟨v.name.toArray⟩) from rfl] at cN
        have hnm := HF.out.name
        have hsz : (⟨v.name.toArray⟩ : ByteArray).size = v.name.length := rfl
        have HRB := Lib.hid (fun (h : v.name = [] ∨ (1 : UInt8) ∈ v.name) => (HE.out (by rw [one_name_bad h]; decide)).trans (by rw [one_name_bad h]))
        clear HE
        obtain ⟨wO, rfl⟩ : ∃ x, x = wr := ⟨wr, rfl⟩
        go_wp2_with fail
        go_loopw [8] (ScanN v.name W) (fun i _ => v.name.length - (intOf i).toNat)
        case atStart => exact ScanN.mk (Nat.zero_le _) (fun m h h0 => absurd h0 (Nat.not_lt_zero _))
        case round =>
          obtain ⟨n, hn, rfl, hno, hw⟩ := hrel
          rw [hw]
          clear hw
          by_cases hlt2 : n < v.name.length
          · have hlt3 : n < (⟨v.name.toArray⟩ : ByteArray).size := hlt2
            have hb : ((((⟨v.name.toArray⟩ : ByteArray)[n]'hlt3).toNat : Int) == 1) = decide (v.name[n] = 1) := byte1
            by_cases h1 : v.name[n] = 1
            · rw [decide_eq_true h1] at hb
              have HR := Lib.hid (HRB.out (.inr (by rw [← h1]; exact List.getElem_mem _)))
              clear h1 hno
              go_wp2_with fail
              go_ret2
              exact ⟨none, 0, by rw [HR.out]; rfl, by rw [HR.out]; exact World.ownsRow_nil _ _ _ _, HB.out.trans (bF.mono HB.out.size)⟩
            · rw [decide_eq_false h1] at hb
              have HNO := Lib.hid (fun m (h : m < v.name.length) (hm : m < n + 1) => (by
                rcases (by omega : m < n ∨ m = n) with h2 | rfl
                · exact hno m h h2
                · exact h1 : v.name[m] ≠ 1))
              clear hno h1
              go_wp2_with fail
              go_roundw
              case rel => exact ScanN.mk (n := n + 1) (by omega) HNO.out
              case measure => simp [intOf]; omega
          · have hnn : n = v.name.length := by omega
            subst hnn
            have hmem : ¬ (1 : UInt8) ∈ v.name := fun hm => by
              obtain ⟨m, h, e⟩ := List.getElem_of_mem hm
              exact hno m h h e
            clear hno hlt2
            by_cases hnil : v.name = []
            · have HR := Lib.hid (HRB.out (.inl hnil))
              have hem : v.name.isEmpty = true := by rw [hnil]; rfl
              clear hmem
              go_wp2_with fail
              go_ret2
              exact ⟨none, 0, by rw [HR.out]; rfl, by rw [HR.out]; exact World.ownsRow_nil _ _ _ _, HB.out.trans (bF.mono HB.out.size)⟩
            · have HO := Lib.hid (one_name (v := v) (fun h => h.elim hnil hmem))
              have hem : v.name.isEmpty = false := by simp [hnil]
              have bV := Lib.hid (bF.setCell (Nat.le_refl wO.heap.size) (p := ⟨wO.heap.size, 1, none⟩) (.string ⟨v.name.toArray⟩))
              clear hmem hnil
              go_wp2_with (at_builtin; go_loud (refine wpList_append_at _ rfl (.tmp 77) (.tmp 79) elemF rfl w.heap.size (.slice ao (k + 1) co) (k + 1) (fcells ((35, [tb]) :: outF v (ts.take k))) rfl (owns_below OWN.out (bV.out.alloc bV.out.size _)) (some ⟨W.heap.size, 0, none⟩) 1 1 (fcell (107, v.name)) rfl rfl (by rw [show W.heap.size = (W.setCell ⟨wO.heap.size, 1, none⟩ (.string ⟨v.name.toArray⟩)).heap.size by simp]; exact at_alloc _ (fcell (107, v.name)).toArray _ _) (by simp [fcell, Value.oneCell']) (by unfold maxLen; omega) (by omega) (by simp; omega) ?_); intro v2 w3 own2 bel2 g2 ob2)
              go_roundw
              case rel => exact LoopR.next hlt hok (by rw [HTK.out, HO.out]) (HBX.out.keep (bV.out.alloc bV.out.size _)) (HAT.out.keep (bV.out.alloc bV.out.size _)) hne hng (HB.out.trans ((bV.out.alloc bV.out.size _).mono HB.out.size)) (by rw [HTK.out, HO.out]; exact own2) bel2 g2 ob2
              case measure => simp [intOf]; omega
      · by_cases h201 : t = 201
        · subst h201
          have HO := Lib.hid (one_call (v := v))
          have cC := XE.cell 10
          rw [show (Ev.cells v)[10]? = some (.bool v.call) from rfl] at cC
          clear h107 HE
          cases hcl : v.call with
          | true =>
            rw [hcl] at cC
            have HCL := Lib.hid hcl
            have bV := Lib.hid ((bF.setCell (Nat.le_refl wr.heap.size) (p := ⟨wr.heap.size, 1, none⟩) (.string ⟨#[78]⟩)).setCell (Nat.le_refl wr.heap.size) (p := ⟨wr.heap.size, 1, none⟩) (.string ⟨#[89]⟩))
            clear hcl
            go_wp2_with (at_builtin; go_loud (refine wpList_append_at _ rfl (.tmp 77) (.tmp 79) elemF rfl w.heap.size (.slice ao (k + 1) co) (k + 1) (fcells ((35, [tb]) :: outF v (ts.take k))) rfl (owns_below OWN.out (bV.out.alloc bV.out.size _)) (some ⟨W.heap.size, 0, none⟩) 1 1 (fcell (201, [89])) rfl rfl (by rw [show W.heap.size = ((W.setCell ⟨wr.heap.size, 1, none⟩ (.string ⟨#[78]⟩)).setCell ⟨wr.heap.size, 1, none⟩ (.string ⟨#[89]⟩)).heap.size by simp]; exact at_alloc _ (fcell (201, [89])).toArray _ _) (by simp [fcell, Value.oneCell']) (by unfold maxLen; omega) (by omega) (by simp; omega) ?_); intro v2 w3 own2 bel2 g2 ob2)
            go_roundw
            case rel => exact LoopR.next hlt hok (by rw [HTK.out, HO.out]) (HBX.out.keep (bV.out.alloc bV.out.size _)) (HAT.out.keep (bV.out.alloc bV.out.size _)) hne hng (HB.out.trans ((bV.out.alloc bV.out.size _).mono HB.out.size)) (by rw [HTK.out, HO.out, HCL.out]; exact own2) bel2 g2 ob2
            case measure => simp [intOf]; omega
          | false =>
            rw [hcl] at cC
            have HCL := Lib.hid hcl
            have bV := Lib.hid (bF.setCell (Nat.le_refl wr.heap.size) (p := ⟨wr.heap.size, 1, none⟩) (.string ⟨#[78]⟩))
            clear hcl
            go_wp2_with (at_builtin; go_loud (refine wpList_append_at _ rfl (.tmp 77) (.tmp 79) elemF rfl w.heap.size (.slice ao (k + 1) co) (k + 1) (fcells ((35, [tb]) :: outF v (ts.take k))) rfl (owns_below OWN.out (bV.out.alloc bV.out.size _)) (some ⟨W.heap.size, 0, none⟩) 1 1 (fcell (201, [78])) rfl rfl (by rw [show W.heap.size = (W.setCell ⟨wr.heap.size, 1, none⟩ (.string ⟨#[78]⟩)).heap.size by simp]; exact at_alloc _ (fcell (201, [78])).toArray _ _) (by simp [fcell, Value.oneCell']) (by unfold maxLen; omega) (by omega) (by simp; omega) ?_); intro v2 w3 own2 bel2 g2 ob2)
            go_roundw
            case rel => exact LoopR.next hlt hok (by rw [HTK.out, HO.out]) (HBX.out.keep (bV.out.alloc bV.out.size _)) (HAT.out.keep (bV.out.alloc bV.out.size _)) hne hng (HB.out.trans ((bV.out.alloc bV.out.size _).mono HB.out.size)) (by rw [HTK.out, HO.out, HCL.out]; exact own2) bel2 g2 ob2
            case measure => simp [intOf]; omega
        · have HO := Lib.hid (one_num (v := v) h107 h201)
          have t1 : (t == 107) = false := by simpa using h107
          have t2 : (t == 201) = false := by simpa using h201
          have hnum := HF.out.num t
          have NB := Lib.hid (fun W => number_calls v t W)
          have FM := Lib.hid (fun W => rformat_calls (num v t) 0 W hnum (by unfold I64; omega))
          obtain ⟨e0, e1, e2, e3, e4, e5, e6, e7, e8, e9, e10, e11⟩ := XE.cells12
          clear h107 h201 hnum f0 f1 fz
          by_cases hfit : fits (num v t) = true
          · rw [if_pos hfit] at HO
            have e1' := FmtV_ok (x := num v t) (p := 0) (by omega) hfit
            rw [e1'] at FM
            clear HE hfit e1'
            generalize hnt : num v t = nt at *
            rw [show (0 : Int).toNat = 0 from rfl] at FM
            clear hnt
            go_wp2_with (first
              | (go_at_call 26; refine (NB.out _).mono ?_; rintro e w4 ⟨rfl, b4⟩)
              | (go_at_call 25; refine (FM.out _).mono ?_; rintro e w5' ⟨rfl, b5⟩; have hz5' := ((bF.trans (b4.mono bF.size)).trans (b5.mono (bF.trans (b4.mono bF.size)).size)).size; have XF5 := (XF.keep b4).keep b5; have bV := Lib.hid (((bF.trans (b4.mono bF.size)).trans (b5.mono (bF.trans (b4.mono bF.size)).size)).setCell (Nat.le_refl wr.heap.size) (p := ⟨wr.heap.size, 1, none⟩) (.string ⟨(fmtF nt 0).toArray⟩)); have f0 := XF5.cell 0; have f1 := XF5.cell 1; have fz := XF5.frozen 1)
              | (at_builtin; go_loud (refine wpList_append_at _ rfl (.tmp 77) (.tmp 79) elemF rfl w.heap.size (.slice ao (k + 1) co) (k + 1) (fcells ((35, [tb]) :: outF v (ts.take k))) rfl (owns_below OWN.out (bV.out.alloc bV.out.size _)) (some ⟨w5'.heap.size, 0, none⟩) 1 1 (fcell (t, fmtF nt 0)) rfl rfl (by rw [show w5'.heap.size = (w5'.setCell ⟨wr.heap.size, 1, none⟩ (.string ⟨(fmtF nt 0).toArray⟩)).heap.size by simp]; exact at_alloc _ (fcell (t, fmtF nt 0)).toArray _ _) (by simp [fcell, Value.oneCell']) (by unfold maxLen; omega) (by omega) (by simp; omega) ?_); intro v2 w3 own2 bel2 g2 ob2))
            go_roundw
            case rel => exact LoopR.next hlt hok (by rw [HTK.out, HO.out]) (HBX.out.keep (bV.out.alloc bV.out.size _)) (HAT.out.keep (bV.out.alloc bV.out.size _)) hne hng (HB.out.trans ((bV.out.alloc bV.out.size _).mono HB.out.size)) (by rw [HTK.out, HO.out]; exact own2) bel2 g2 ob2
            case measure => simp [intOf]; omega
          · rw [if_neg hfit] at HO
            have hf' : fits (num v t) = false := by simpa using hfit
            have e1' := FmtV_over (x := num v t) (p := 0) (by omega) hf'
            rw [e1'] at FM
            have HR := Lib.hid (HE.out (by rw [HO.out]; decide))
            rw [HO.out] at HR
            clear HE hfit hf' e1'
            generalize hnt : num v t = nt at *
            clear hnt
            go_wp2_with (first
              | (go_at_call 26; refine (NB.out _).mono ?_; rintro e w4 ⟨rfl, b4⟩)
              | (go_at_call 25; refine (FM.out _).mono ?_; rintro e w5' ⟨rfl, b5⟩; have HB5 := Lib.hid (HB.out.trans (((bF.trans (b4.mono bF.size)).trans (b5.mono (bF.trans (b4.mono bF.size)).size)).mono HB.out.size))))
            go_ret2
            exact ⟨none, 0, by rw [HR.out]; rfl, by rw [HR.out]; exact World.ownsRow_nil _ _ _ _, HB5.out⟩
    · have hkk : k = ts.length := by omega
      subst hkk
      rw [List.take_length] at own hok
      have HR := Lib.hid (hR1.out hok)
      have hol : (outF v ts).length = ts.length := by unfold outF; simp
      clear hok hR1 hR2
      go_wp2_with fail
      go_ret2
      refine ⟨ao, co, by rw [HR.out]; simp [hol], ?_, hB⟩
      rw [HR.out]
      simpa [hol] using own
end Go.Proofs.YtbpndiegbfpigaaDoor.PortW
