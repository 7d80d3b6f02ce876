/- The walk of port.Fields. -/
import Derived.Test.YtbpndiegbfpigaaGreatDoorPortWalks
import Derived.Deep.RegionHeld3
import Derived.IntWalk
namespace Go.Proofs.YtbpndiegbfpigaaGreatDoor.PortW
open Go.RowKit Go.Proofs.YtbpndiegbfpigaaGreatDoor.Bas Go.Proofs.YtbpndiegbfpigaaGreatDoor.DecM Go.Proofs.YtbpndiegbfpigaaGreatDoor.FixpM Go.Proofs.YtbpndiegbfpigaaGreatDoor.FixpW Go.Proofs.YtbpndiegbfpigaaGreatDoor.DecW Go.Proofs.YtbpndiegbfpigaaGreatDoor.FldW Go.Proofs.YtbpndiegbfpigaaGreatDoor.PortM

/-- an event's numbers are numbers -/
structure Ev.Fine (v : Ev) : Prop where
  num : ∀ t, I64 (num v t)
  kind : I64 v.kind
  name : v.name.length ≤ 140737488351232
theorem index_mem (l : List UInt8) (c : UInt8) : 0 ≤ Lib.indexByte l c ↔ c ∈ l := by
  induction l with
  | nil => simp [Lib.indexByte]
  | cons b l ih =>
    unfold Lib.indexByte
    by_cases h : b = c
    · subst h; simp
    · rw [if_neg (by simpa using h)]
      have hge := Lib.indexByte_ge l c
      by_cases h1 : Lib.indexByte l c = -1
      · rw [h1]
        have : c ∉ l := fun hm => by have := ih.2 hm; omega
        simp [this, Ne.symm h]
      · rw [if_neg (by simpa using h1)]
        have : c ∈ l := ih.1 (by omega)
        simp [this]; omega
theorem at_grown {w w' : World} {a : Option Addr} {cs : List Value} {o : Option Nat} (h : At w a cs) (hg : w.grownBy w' o) (hne : ∀ b off s, a = some ⟨b, off, s⟩ → o ≠ some b) : At w' a cs := by
  intro j u hj
  obtain ⟨b, off, rfl, hc⟩ := h j u hj
  refine ⟨b, off, rfl, ?_⟩
  have hb := World.block_lt_of_cell? w _ hc
  have e := hg.block b hb (fun e => hne b off none rfl e.symm)
  unfold World.cell? at hc ⊢
  simp only at hc ⊢
  rw [e]; exact hc
theorem box_grown {w w' : World} {g : Nat} {t : TypeId} {cs : Array Value} {o : Option Nat} (h : Box w g t cs) (hg : w.grownBy w' o) (hne : o ≠ some g) : Box w' g t cs := (hg.block g h.lt (fun e => hne e.symm)).trans h
theorem fields_snoc (v : Ev) (ts : List Int) (tb : UInt8) (k : Nat) (hk : k < ts.length) :
    fcells ((35, [tb]) :: outF v (ts.take (k + 1))) = fcells ((35, [tb]) :: outF v (ts.take k)) ++ fcell (ts[k], (one v ts[k]).2) := by
  rw [outF_snoc hk, ← List.cons_append, fcells_append, fcells_one]
theorem box_first {A B : World} {n g : Nat} {t : TypeId} {cs : Array Value} (h : Box A g t cs) (hb : Below (A.drewN n).heap.size (A.drewN n) B) : Box B g t cs := (h.drewN n).keep hb
theorem below_first {w A B : World} {m n : Nat} (h : Below m w A) (hb : Below (A.drewN n).heap.size (A.drewN n) B) (hm : m ≤ A.heap.size) : Below m w B := (below_drewN h n).trans (hb.mono hm)
/-- between two tags -/
def LoopR (w : World) (v : Ev) (g : Nat) (at_ : Option Addr) (ts : List Int) (tb : UInt8) (o i : Value) (wr : World) : Prop :=
  ∃ k : Nat, k ≤ ts.length ∧ i = .int .i64 k ∧ wr.ownsRow w.heap.size 43 2 o (k + 1) (fcells ((35, [tb]) :: outF v (ts.take k))) ∧ AllOk v (ts.take k) ∧ Box wr g 23 (Ev.cells v) ∧ At wr at_ (i64s ts) ∧
    (∀ b off s, at_ = some ⟨b, off, s⟩ → o.ownBlock ≠ some b) ∧ o.ownBlock ≠ some g ∧ Below w.heap.size w wr
/-- one more -/
theorem LoopR.next {w w2 w3 : World} {v : Ev} {g k : Nat} {at_ : Option Addr} {ts : List Int} {tb : UInt8} {o v2 : Value} (hk : k < ts.length) (ha : AllOk v (ts.take k)) (h0 : (one v ts[k]).1 = 0)
    (hbx : Box w2 g 23 (Ev.cells v)) (hat : At w2 at_ (i64s ts)) (hne : ∀ b off s, at_ = some ⟨b, off, s⟩ → o.ownBlock ≠ some b) (hng : o.ownBlock ≠ some g) (hB : Below w.heap.size w w2)
    (own : w3.ownsRow w.heap.size 43 2 v2 (k + 1 + 1) (fcells ((35, [tb]) :: outF v (ts.take k)) ++ fcell (ts[k], (one v ts[k]).2))) (bel : Below w.heap.size w2 w3) (hg : w2.grownBy w3 o.ownBlock) (ho : v2.ownBlock = o.ownBlock ∨ v2.ownBlock = some w2.heap.size) : LoopR w v g at_ ts tb v2 (.int .i64 ((k : Int) + 1)) w3 := by
  have hts : ts ≠ [] := by rintro rfl; simp at hk
  refine ⟨k + 1, hk, by go_num, ?_, ha.snoc hk h0, box_grown hbx hg hng, at_grown hat hg hne, ?_, ?_, hB.trans bel⟩
  · rw [fields_snoc v ts tb k hk]; exact own
  · intro b off s e
    rcases ho with ho | ho
    · rw [ho]; exact hne b off s e
    · rw [ho]
      have := hat.lt b off s e (by intro h; have := congrArg List.length h; rw [i64s_len] at this; simp at this; exact hts this)
      intro e2; cases e2; omega
  · rcases ho with ho | ho
    · rw [ho]; exact hng
    · rw [ho]
      have := hbx.lt
      intro e2; cases e2; omega

set_option maxHeartbeats 4000000 in
set_option maxRecDepth 20000 in
theorem fields_calls (v : Ev) (w : World) (hf : Ev.Fine v) (ht : Pow w) :
    Calls Tryz.prog 7 #[.agg (Ev.cells v)] w fun e w' => ∃ a cap, e = .returned (.tuple #[.slice a (fieldsR v).1.length cap, .int .i64 (fieldsR v).2]) ∧ w'.ownsRow w.heap.size 43 2 (.slice a (fieldsR v).1.length cap) (fieldsR v).1.length (fcells (fieldsR v).1) ∧ Below w.heap.size w w' := by
  have HT := Lib.hid ht
  have HF := Lib.hid hf
  have hkb := hf.kind
  unfold I64 at hkb
  clear ht hf
  go_enter Tryz.func7, Tryz.ntmps7
  have X0 := Box.new w 23 (Ev.cells v)
  have B0 := (Below.refl w.heap.size w).alloc (Nat.le_refl _) (.cells (Ev.cells v) 23)
  go_upto_region 1 with fail
  generalize w.alloc (.cells (Ev.cells v) 23) = w1 at *
  have c0 : w1.cell? ⟨w.heap.size, 0, none⟩ = some (.int .i64 v.kind) := X0.cell 0
  by_cases hk : v.kind < 1 ∨ 16 < v.kind
  · have hof : ofF v.kind = -1 := by unfold ofF; rw [if_pos hk]
    have hR := Lib.hid (fieldsR_kind hk)
    clear hk
    go_wp2_with (go_at_call 14; refine (of_calls _ _).mono ?_; rw [hof]; rintro e w2 ⟨rfl, rfl⟩)
    go_ret2
    refine ⟨none, 0, by rw [hR.out]; rfl, by rw [hR.out]; exact World.ownsRow_nil _ _ _ _, B0⟩
  obtain ⟨j, hj⟩ : ∃ j : Nat, v.kind = (j : Int) + 1 := ⟨(v.kind - 1).toNat, by omega⟩
  have hj16 : j < 16 := by omega
  have hof : 0 ≤ ofF v.kind := by
    unfold ofF
    rw [if_neg hk]
    repeat' (first | omega | split)
  have hTy := Lib.hid types_calls
  have hTg := fun W => tags_calls v.kind W
  have htb : typeB v.kind = kindsL.getD j 0 := by unfold typeB; rw [hj]; congr 1; omega
  obtain ⟨ts, hts⟩ : ∃ ts, ts = tagsF v.kind := ⟨_, rfl⟩
  obtain ⟨tb, htb2⟩ : ∃ tb, tb = typeB v.kind := ⟨_, rfl⟩
  have hl6 := tagsF_len v.kind
  have hR1 := Lib.hid (fun (h : AllOk v (tagsF v.kind)) => fieldsR_ok hk h)
  have hR2 := Lib.hid (fun (i : Nat) (h1 : i < (tagsF v.kind).length) h2 h3 => fieldsR_bad (v := v) (j := i) hk h1 h2 h3)
  rw [← htb2] at hR1 htb
  rw [← hts] at hR1 hR2 hTg hl6
  rw [hj] at c0 hof hTg
  have HTg := Lib.hid hTg
  have HTB := Lib.hid htb
  clear htb hk hkb hj hts htb2 hTg
  go_upto_region 3 with (go_at_call 14; refine (of_calls _ _).mono ?_; rintro e w2 ⟨rfl, rfl⟩)
  have X1 : Box w1.drew w.heap.size 23 (Ev.cells v) := X0
  have B1 : Below w.heap.size w w1.drew := ⟨B0.os, B0.tape, B0.output, B0.size, B0.block⟩
  have hj0 : (0 : Int) ≤ (j : Int) := by omega
  have hj1 : (j : Int) < 16 := by omega
  have hw1 : IntKind.i64.wrap ((j : Int) + 1 - 1) = (j : Int) := by rw [IntWalk.i64_in _ (by omega)]; omega
  have hw2 : IntKind.i64.wrap (j : Int) = (j : Int) := IntWalk.i64_in _ (by omega)
  go_region_with (go_at_call 15; refine (hTy.out _).mono ?_; rintro e w5 ⟨aT, cT, rfl, atT, bb⟩; have X9 := box_first X0 bb; have c9 := (X9.cell 0).trans ((X0.cell 0).symm.trans c0); have B9 := below_first B0 bb B0.size; obtain ⟨bT, oT, rfl, hcT⟩ := atT j (.string ⟨#[tb]⟩) (by rw [HTB.out]; unfold strs; rw [List.getElem?_map, List.getElem?_eq_getElem (show j < kindsL.length from hj16)]; simp [List.getD, List.getElem?_eq_getElem (show j < kindsL.length from hj16)]))
  all_goals
    have X6 := X9.alloc (.cells #[.int .i64 35, .string ⟨#[tb]⟩] 43)
    have own6 : (w5.alloc (.cells #[.int .i64 35, .string ⟨#[tb]⟩] 43)).ownsRow w.heap.size 43 2 (.slice (some ⟨w5.heap.size, 0, none⟩) 1 1) 1 (fcells [(35, [tb])]) := World.ownsRow_lit w5 _ 1 B9.size (by simp [maxLen]) rfl
    have B6 := B9.alloc B9.size (.cells #[.int .i64 35, .string ⟨#[tb]⟩] 43)
    have z6 : w5.heap.size < (w5.alloc (.cells #[.int .i64 35, .string ⟨#[tb]⟩] 43)).heap.size := by simp
    have zg : w.heap.size < w5.heap.size := X9.lt
    have c6 := (X6.cell 0).trans ((X0.cell 0).symm.trans c0)
    clear X9 c9 B9 hcT atT bb X1 B1 X0 B0 c0 hw1 hw2 hTy
    generalize w5.heap.size = go at *
    generalize w5.alloc (.cells #[.int .i64 35, .string ⟨#[tb]⟩] 43) = w6 at *
    go_wp2_with (go_at_call 16; refine (HTg.out _).mono ?_; rintro e w7 ⟨a7, c7, rfl, at7, fr7, b7⟩)
    have X7 := X6.keep b7
    have own7 := owns_below own6 b7
    have B7 := B6.trans (b7.mono B6.size)
    have hne : ∀ b off s, a7 = some ⟨b, off, s⟩ → (Value.slice (some ⟨go, 0, none⟩) 1 1).ownBlock ≠ some b := fun b off s e e2 => by
      have h1 := fr7 b off s e
      simp [Value.ownBlock] at e2
      omega
    have hng : (Value.slice (some ⟨go, 0, none⟩) 1 1).ownBlock ≠ some w.heap.size := fun e2 => by
      simp [Value.ownBlock] at e2
      omega
    clear X6 own6 B6 b7 c6 HTg
    go_loopw [4, 26] (LoopR w v w.heap.size a7 ts tb) (fun _ i _ => ts.length - (intOf i).toNat)
    case atStart => exact ⟨0, Nat.zero_le _, rfl, own7, (fun t h => by simp at h), X7, at7, hne, hng, B7⟩
    case round =>
      clear X7 own7 B7 hne hng at7
      obtain ⟨k, hk, rfl, own, hok, hbx, hat, hne, hng, hB⟩ := hrel
      obtain ⟨ao, co, rfl, _, hco, _, _, _⟩ := at_of_owns own
      by_cases hlt : k < ts.length
      · obtain ⟨b, off, rfl, hcell⟩ := hat k _ (i64s_get ts k hlt)
        obtain ⟨t, htk⟩ : ∃ t, t = ts[k] := ⟨_, rfl⟩
        rw [← htk] at hcell
        have HTK := Lib.hid htk.symm
        have hE := fun (h : (one v t).1 ≠ 0) => hR2.out k hlt hok (by rw [← htk]; exact h)
        rw [← htk] at hE
        have cN : wr.cell? ⟨w.heap.size, 11, none⟩ = some (.string ⟨v.name.toArray⟩) := hbx.cell 11
        have cC : wr.cell? ⟨w.heap.size, 10, none⟩ = some (.bool v.call) := hbx.cell 10
        have cP := hbx.cell (place t)
        rw [place_get] at cP
        have hz := hB.size
        have OWN := Lib.hid own
        have HBX := Lib.hid hbx
        have HAT := Lib.hid hat
        have HB := Lib.hid hB
        have HE := Lib.hid hE
        clear htk hE own hbx hat hB
        by_cases h107 : t = 107
        · subst h107
          have HCT := fun W => Tryz.strings_Contains_one ⟨v.name.toArray⟩ 1 W
          rw [show (⟨v.name.toArray⟩ : ByteArray).data.toList = v.name by simp] at HCT
          by_cases hbad : v.name = [] ∨ (1 : UInt8) ∈ v.name
          · have HO := Lib.hid (one_name_bad hbad)
            have HR := Lib.hid (HE.out (by rw [HO.out]; decide))
            rw [HO.out] at HR
            by_cases hnil : v.name = []
            · rw [hnil] at cN
              clear HCT hbad hnil cP cC
              go_wp2_with fail
              go_ret2
              exact ⟨none, 0, by rw [HR.out]; rfl, by rw [HR.out]; exact World.ownsRow_nil _ _ _ _, HB.out⟩
            · have hin : (1 : UInt8) ∈ v.name := hbad.resolve_left hnil
              rw [decide_eq_true ((index_mem _ _).2 hin)] at HCT
              have HCT := Lib.hid HCT
              have hem : v.name.isEmpty = false := by simp [hnil]
              clear hbad hnil hin cP cC
              go_wp2_with (go_at_call 17; refine (HCT.out _).mono ?_; rintro e wr ⟨rfl, rfl⟩)
              go_ret2
              exact ⟨none, 0, by rw [HR.out]; rfl, by rw [HR.out]; exact World.ownsRow_nil _ _ _ _, HB.out⟩
          · have HO := Lib.hid (one_name hbad)
            have hno : ¬ (1 : UInt8) ∈ v.name := fun h => hbad (.inr h)
            have hem : v.name.isEmpty = false := by
              cases hn : v.name with
              | nil => exact absurd (.inl hn) hbad
              | cons b l => rfl
            rw [decide_eq_false (fun h => hno ((index_mem _ _).1 h))] at HCT
            have HCT := Lib.hid HCT
            clear hbad hno cP cC HE
            go_wp2_with (first | (go_at_call 17; refine (HCT.out _).mono ?_; rintro e wr ⟨rfl, rfl⟩) | (at_builtin; refine wpList_append_at _ rfl (.tmp 58) (.tmp 63) elemF rfl w.heap.size _ (k + 1) (fcells ((35, [tb]) :: outF v (ts.take k))) rfl (OWN.out.alloc _) (some ⟨wr.heap.size, 0, none⟩) 1 1 (fcell (107, v.name)) rfl rfl (at_alloc wr (fcell (107, v.name)).toArray _ _) (by simp [fcell, Value.oneCell']) (by unfold maxLen; omega) (by omega) (by simp; omega) ?_; intro v2 w3 own2 bel2 g2 ob2))
            go_roundw
            case rel => exact LoopR.next hlt hok (by rw [HTK.out, HO.out]) (HBX.out.alloc _) (HAT.out.keep ((Below.refl _ _).alloc (Nat.le_refl _) _)) hne hng (HB.out.alloc HB.out.size _) (by rw [HTK.out, HO.out]; exact own2) bel2 g2 ob2
            case measure => simp [intOf]; omega
        · by_cases h201 : t = 201
          · subst h201
            have HO := Lib.hid (one_call (v := v))
            clear h107 cP cN HE
            cases hcl : v.call with
            | true =>
              rw [hcl] at cC
              have HCL := Lib.hid hcl
              clear hcl
              go_wp2_with (at_builtin; refine wpList_append_at _ rfl (.tmp 69) (.tmp 73) elemF rfl w.heap.size _ (k + 1) (fcells ((35, [tb]) :: outF v (ts.take k))) rfl (OWN.out.alloc _) (some ⟨wr.heap.size, 0, none⟩) 1 1 (fcell (201, [89])) rfl rfl (at_alloc wr (fcell (201, [89])).toArray _ _) (by simp [fcell, Value.oneCell']) (by unfold maxLen; omega) (by omega) (by simp; omega) ?_; intro v2 w3 own2 bel2 g2 ob2)
              go_roundw
              case rel => exact LoopR.next hlt hok (by rw [HTK.out, HO.out]) (HBX.out.alloc _) (HAT.out.keep ((Below.refl _ _).alloc (Nat.le_refl _) _)) hne hng (HB.out.alloc HB.out.size _) (by rw [HTK.out, HO.out, HCL.out]; exact own2) bel2 g2 ob2
              case measure => simp [intOf]; omega
            | false =>
              rw [hcl] at cC
              have HCL := Lib.hid hcl
              clear hcl
              go_wp2_with (at_builtin; refine wpList_append_at _ rfl (.tmp 69) (.tmp 73) elemF rfl w.heap.size _ (k + 1) (fcells ((35, [tb]) :: outF v (ts.take k))) rfl (OWN.out.alloc _) (some ⟨wr.heap.size, 0, none⟩) 1 1 (fcell (201, [78])) rfl rfl (at_alloc wr (fcell (201, [78])).toArray _ _) (by simp [fcell, Value.oneCell']) (by unfold maxLen; omega) (by omega) (by simp; omega) ?_; intro v2 w3 own2 bel2 g2 ob2)
              go_roundw
              case rel => exact LoopR.next hlt hok (by rw [HTK.out, HO.out]) (HBX.out.alloc _) (HAT.out.keep ((Below.refl _ _).alloc (Nat.le_refl _) _)) hne hng (HB.out.alloc HB.out.size _) (by rw [HTK.out, HO.out, HCL.out]; exact own2) bel2 g2 ob2
              case measure => simp [intOf]; omega
          · have HO := Lib.hid (one_num (v := v) h107 h201)
            have t1 : (t == 107) = false := by simpa using h107
            have t2 : (t == 201) = false := by simpa using h201
            have hnum := HF.out.num t
            have AT := Lib.hid (fun W => at_calls w.heap.size t W)
            have FM := Lib.hid (fun W h => format_calls (num v t) 0 W hnum (by unfold I64; omega) h)
            clear h107 h201 cN cC hnum
            by_cases hfit : fits (num v t) = true
            · rw [if_pos hfit] at HO
              have e1 := FmtV_ok (x := num v t) (p := 0) (by omega) hfit
              rw [e1] at FM
              clear HE hfit e1
              generalize hnt : num v t = nt at *
              rw [show (0 : Int).toNat = 0 from rfl] at FM
              have HNT := Lib.hid hnt
              clear hnt
              go_wp2_with (first
                | (go_at_call 19; refine (AT.out _).mono ?_; rintro e w4 ⟨rfl, rfl⟩)
                | (go_at_call 18; refine (FM.out _ (HT.out.keep HB.out)).mono ?_; rintro e w5' ⟨rfl, b5⟩; have HB5 := Lib.hid (HB.out.trans (b5.mono HB.out.size)); have HBX5 := Lib.hid (HBX.out.keep b5); have HAT5 := Lib.hid (HAT.out.keep b5); have OWN5 := Lib.hid (owns_below OWN.out b5); have hz5 := HB5.out.size)
                | (at_builtin; refine wpList_append_at _ rfl (.tmp 42) (.tmp 46) elemF rfl w.heap.size _ (k + 1) (fcells ((35, [tb]) :: outF v (ts.take k))) rfl (OWN5.out.alloc _) (some ⟨w5'.heap.size, 0, none⟩) 1 1 (fcell (t, fmtF nt 0)) rfl rfl (at_alloc w5' (fcell (t, fmtF nt 0)).toArray _ _) (by simp [fcell, Value.oneCell']) (by unfold maxLen; omega) (by omega) (by simp; omega) ?_; intro v2 w3 own2 bel2 g2 ob2))
              go_roundw
              case rel => exact LoopR.next hlt hok (by rw [HTK.out, HO.out]) (HBX5.out.alloc _) (HAT5.out.keep ((Below.refl _ _).alloc (Nat.le_refl _) _)) hne hng (HB5.out.alloc HB5.out.size _) (by rw [HTK.out, HO.out]; exact own2) bel2 g2 ob2
              case measure => simp [intOf]; omega
            · rw [if_neg hfit] at HO
              have hf' : fits (num v t) = false := by simpa using hfit
              have e1 := FmtV_over (x := num v t) (p := 0) (by omega) hf'
              rw [e1] at FM
              have HR := Lib.hid (HE.out (by rw [HO.out]; decide))
              rw [HO.out] at HR
              clear HE hfit hf' e1
              generalize hnt : num v t = nt at *
              clear hnt
              go_wp2_with (first
                | (go_at_call 19; refine (AT.out _).mono ?_; rintro e w4 ⟨rfl, rfl⟩)
                | (go_at_call 18; refine (FM.out _ (HT.out.keep HB.out)).mono ?_; rintro e w5' ⟨rfl, b5⟩; have HB5 := Lib.hid (HB.out.trans (b5.mono HB.out.size))))
              go_ret2
              exact ⟨none, 0, by rw [HR.out]; rfl, by rw [HR.out]; exact World.ownsRow_nil _ _ _ _, HB5.out⟩
      · have hkk : k = ts.length := by omega
        subst hkk
        rw [List.take_length] at own hok
        have HR := Lib.hid (hR1.out hok)
        have hol : (outF v ts).length = ts.length := by unfold outF; simp
        clear hok hR1 hR2
        go_wp2_with fail
        go_ret2
        refine ⟨ao, co, by rw [HR.out]; simp [hol], ?_, hB⟩
        rw [HR.out]
        simpa [hol] using own
end Go.Proofs.YtbpndiegbfpigaaGreatDoor.PortW
