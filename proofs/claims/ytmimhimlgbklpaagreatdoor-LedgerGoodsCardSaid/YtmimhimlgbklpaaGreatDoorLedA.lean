/- Pay and Total of a ledger, wide: what they answer, the walks. -/
import Derived.Test.YtmimhimlgbklpaaGreatDoorLedPayMath
import Derived.Test.YtmimhimlgbklpaaGreatDoorLedPush
import Derived.Test.YtmimhimlgbklpaaGreatDoorFixpSub
import Derived.Test.YtmimhimlgbklpaaGreatDoorFixpRef
import Derived.Test.YtmimhimlgbklpaaGreatDoorLedOpen
set_option linter.unusedSimpArgs false
set_option linter.unusedVariables false
namespace Go.Proofs.YtmimhimlgbklpaaGreatDoor.LedW
open Go.Proofs.YtmimhimlgbklpaaGreatDoor.LedM Go.Proofs.YtmimhimlgbklpaaGreatDoor.FixpM

theorem cashAt_set {l : Led} {v c : Nat} {x : Int} {u : Nat} (hv : v < l.accts.length) (hc : c < (l.accts[v]).cash.length) : cashAt (setCash l v c x) u c = if v = u then x else cashAt l u c := by
  unfold cashAt setCash
  simp only [List.getElem?_modify]
  by_cases h : v = u
  · subst h
    rw [if_pos rfl, List.getElem?_eq_getElem hv]
    simp [putCash, List.getD_eq_getElem?_getD, hc]
  · rw [if_neg h]
    simp [h]
theorem cashAt_other {l : Led} {v c : Nat} {x : Int} {u k : Nat} (hk : c ≠ k) : cashAt (setCash l v c x) u k = cashAt l u k := by
  unfold cashAt setCash
  simp only [List.getElem?_modify]
  cases hu : l.accts[u]? with
  | none => simp
  | some a =>
    by_cases h : v = u
    · simp [h, putCash, List.getD_eq_getElem?_getD, List.getElem?_set_ne hk]
    · simp [h]
theorem addF_ok {a b x : Int} (h : addF a b = (x, 0)) : x = a + b ∧ fits x = true := by
  unfold addF at h
  split at h
  · unfold okv at h
    split at h
    · next hf => cases h; exact ⟨rfl, hf⟩
    · cases h
  · cases h
theorem subF_ok {a b x : Int} (h : subF a b = (x, 0)) : x = a - b ∧ fits x = true := by
  unfold subF at h
  split at h
  · unfold okv at h
    split at h
    · next hf => cases h; exact ⟨rfl, hf⟩
    · cases h
  · cases h
/-- a payment that went: from where, to where, what is there now -/
structure Paid (l l' : Led) (v t c : Nat) (amount x1 y1 : Int) : Prop where
  hv : v < l.accts.length
  ht : t < l.accts.length
  hvc : c < (l.accts[v]).cash.length
  htc : c < (l.accts[t]).cash.length
  x : x1 = cashAt l v c - amount
  fx : fits x1 = true
  y : y1 = cashAt (setCash l v c x1) t c + amount
  fy : fits y1 = true
  l' : l' = setCash (setCash l v c x1) t c y1
theorem payF_paid {l l' : Led} {cur amount fr to_ er : Int} (h : payF l cur amount fr to_ = (l', er)) : (er ≠ 0 ∧ l' = zeroLed) ∨ (er = 0 ∧ 0 ≤ fr ∧ 0 ≤ to_ ∧ 0 ≤ cur ∧ ∃ x1 y1, Paid l l' fr.toNat to_.toNat cur.toNat amount x1 y1) := by
  by_cases h1 : endF l cur fr = 0
  rotate_left
  · rw [payF_bad1 rfl h1] at h
    cases h
    exact .inl ⟨h1, rfl⟩
  by_cases h2 : endF l cur to_ = 0
  rotate_left
  · rw [payF_bad2 h1 rfl h2] at h
    cases h
    exact .inl ⟨h2, rfl⟩
  obtain ⟨x1, x2, hx⟩ : ∃ x1 x2, subF (cashAt l fr.toNat cur.toNat) amount = (x1, x2) := ⟨_, _, rfl⟩
  by_cases hx2 : x2 = 0
  rotate_left
  · rw [payF_sub h1 h2 hx hx2] at h
    cases h
    exact .inl ⟨hx2, rfl⟩
  subst hx2
  obtain ⟨y1, y2, hy⟩ : ∃ y1 y2, addF (cashAt (setCash l fr.toNat cur.toNat x1) to_.toNat cur.toNat) amount = (y1, y2) := ⟨_, _, rfl⟩
  by_cases hy2 : y2 = 0
  rotate_left
  · rw [payF_add h1 h2 hx hy hy2] at h
    cases h
    exact .inl ⟨hy2, rfl⟩
  subst hy2
  rw [payF_ok h1 h2 hx hy] at h
  cases h
  obtain ⟨a1, a2, a3, a4⟩ := endF_ok h1
  obtain ⟨b1, b2, b3, b4⟩ := endF_ok h2
  have hv : fr.toNat < l.accts.length := by omega
  have ht : to_.toNat < l.accts.length := by omega
  rw [cashLen_at hv] at a4
  rw [cashLen_at ht] at b4
  obtain ⟨e1, e2⟩ := subF_ok hx
  obtain ⟨e3, e4⟩ := addF_ok hy
  exact .inr ⟨rfl, a1, b1, a3, x1, y1, hv, ht, by omega, by omega, e1, e2, e3, e4, rfl⟩
/-! ### the document's Pay -/
def giveF (l : Led) (cur amount : Int) (v : Nat) : Led × Int :=
  let x := addF (cashAt l v cur.toNat) amount
  if x.2 ≠ 0 then (l, x.2) else (setCash l v cur.toNat x.1, 0)
theorem setCash_len' (l : Led) (v c : Nat) (x : Int) : (setCash l v c x).accts.length = l.accts.length := by simp [setCash]
/-! ### totals -/
def sumC (c : Nat) (xs : List Acc) : Int := (xs.map fun a => a.cash.getD c 0).sum
theorem totalF_sum {cur : Int} : ∀ {xs : List Acc} {all x : Int}, totalF cur all xs = (x, 0) → x = all + sumC cur.toNat xs
  | [], all, x, h => by
    unfold totalF at h
    cases h
    simp [sumC]
  | a :: r, all, x, h => by
    unfold totalF at h
    split at h
    · obtain ⟨y1, y2, hy⟩ : ∃ y1 y2, addF all (a.cash.getD cur.toNat 0) = (y1, y2) := ⟨_, _, rfl⟩
      rw [hy] at h
      by_cases h2 : y2 = 0
      · subst h2
        obtain ⟨e1, _⟩ := addF_ok hy
        have := totalF_sum (by simpa using h)
        rw [this, e1]
        simp [sumC]
        omega
      · simp [h2] at h
    · cases h
theorem sum_modify (f : Acc → Int) (g : Acc → Acc) : ∀ (xs : List Acc) (v : Nat) (hv : v < xs.length), ((xs.modify v g).map f).sum = (xs.map f).sum + f (g xs[v]) - f xs[v]
  | a :: r, 0, _ => by simp; omega
  | a :: r, v + 1, hv => by
    have := sum_modify f g r v (by simpa using hv)
    simp [this]; omega
theorem sumC_set {l : Led} {v c : Nat} {x : Int} (hv : v < l.accts.length) (hc : c < (l.accts[v]).cash.length) : sumC c (setCash l v c x).accts = sumC c l.accts + x - cashAt l v c := by
  unfold sumC setCash
  rw [sum_modify _ _ _ v hv, cashAt_at hv]
  simp [putCash, List.getD_eq_getElem?_getD, hc]
theorem sumC_other {l : Led} {v c k : Nat} {x : Int} (hv : v < l.accts.length) (hk : c ≠ k) : sumC k (setCash l v c x).accts = sumC k l.accts := by
  unfold sumC setCash
  rw [sum_modify _ _ _ v hv]
  simp [putCash, List.getD_eq_getElem?_getD, List.getElem?_set_ne hk]
theorem set_cash_len {l : Led} {v c : Nat} {x : Int} {u : Nat} (hu : u < l.accts.length) : ((setCash l v c x).accts[u]'(by rw [setCash_len']; exact hu)).cash.length = (l.accts[u]).cash.length := by
  simp only [setCash, List.getElem_modify]
  split
  · simp [putCash]
  · rfl
/-- each currency's total stays -/
theorem Paid.total {l l' : Led} {v t c : Nat} {amount x1 y1 : Int} (h : Paid l l' v t c amount x1 y1) (k : Nat) : sumC k l'.accts = sumC k l.accts := by
  have ht : t < (setCash l v c x1).accts.length := by rw [setCash_len']; exact h.ht
  rw [h.l']
  by_cases hk : c = k
  · subst hk
    rw [sumC_set ht (by rw [set_cash_len h.ht]; exact h.htc), sumC_set h.hv h.hvc, h.y, h.x]
    omega
  · rw [sumC_other ht hk, sumC_other h.hv hk]
theorem allI_modify {α : Type} {f : Nat → α → Bool} {g : α → α} (hg : ∀ n a, f n a = true → f n (g a) = true) : ∀ (l : List α) (i k : Nat), allI f i l = true → allI f i (l.modify k g) = true
  | [], i, k, h => by cases k <;> simpa using h
  | a :: r, i, 0, h => by
    simp only [allI, List.modify_zero_cons, Bool.and_eq_true] at h ⊢
    exact ⟨hg _ _ h.1, h.2⟩
  | a :: r, i, k + 1, h => by
    simp only [allI, List.modify_succ_cons, Bool.and_eq_true] at h ⊢
    exact ⟨h.1, allI_modify hg r (i + 1) k h.2⟩
theorem modify_same {α β : Type} {f : α → β} {g : α → α} (h : ∀ a, f (g a) = f a) : ∀ (l : List α) (k : Nat), (l.modify k g).map f = l.map f
  | [], k => by cases k <;> simp
  | x :: l, 0 => by simp [h]
  | x :: l, k + 1 => by simp [modify_same h l k]
/-- an amount in an account: the ledger can still be -/
theorem good_set {l : Led} {v c : Nat} {x : Int} (hx : fits x = true) (h : goodF l = true) : goodF (setCash l v c x) = true := by
  have hlen := setCash_len' l v c x
  have hpar : parents (setCash l v c x) = parents l := modify_same (g := fun a => putCash a c x) (fun _ => rfl) l.accts v
  have hlast : ∀ u, lastOf (setCash l v c x).accts u = lastOf l.accts u := fun u => by
    unfold lastOf setCash
    simp only [List.getElem?_modify]
    cases l.accts[u.toNat]? with
    | none => simp
    | some a => by_cases hu : v = u.toNat <;> simp [hu, putCash]
  unfold goodF at h ⊢
  simp only [Bool.and_eq_true] at h ⊢
  obtain ⟨h1, h2, h3, h4, h5, h6, h7⟩ := h
  refine ⟨h1, h2, ?_, ?_, ?_, ?_, ?_⟩
  · unfold accountsF at h3 ⊢
    rw [Bool.and_eq_true] at h3 ⊢
    rw [hpar]
    refine ⟨h3.1, allI_modify (fun n a ha => ?_) _ _ _ h3.2⟩
    unfold accOk at ha ⊢
    rw [Bool.and_eq_true, decide_eq_true_eq, List.all_eq_true] at ha ⊢
    obtain ⟨⟨e1, e2⟩, e3⟩ := ha
    refine ⟨⟨by simpa [putCash, setCash] using e1, e2⟩, fun y hy => ?_⟩
    rcases List.mem_or_eq_of_mem_set hy with hy | rfl
    · exact e3 y hy
    · exact hx
  · rw [hlen]; exact h4
  · rw [hlen]; exact h5
  · rw [hlen]; exact h6
  · rw [List.all_eq_true] at h7 ⊢
    intro o ho
    have := h7 o ho
    unfold idOk at this ⊢
    rw [hlast]; exact this
theorem Paid.good {l l' : Led} {v t c : Nat} {amount x1 y1 : Int} (h : Paid l l' v t c amount x1 y1) (hg : goodF l = true) : goodF l' = true := by
  rw [h.l']
  exact good_set h.fy (good_set h.fx hg)
/-- what is another: the two accounts' cash in the one currency -/
theorem Paid.cash {l l' : Led} {v t c : Nat} {amount x1 y1 : Int} (h : Paid l l' v t c amount x1 y1) (u k : Nat) (hne : cashAt l' u k ≠ cashAt l u k) : k = c ∧ (u = v ∨ u = t) := by
  have ht : t < (setCash l v c x1).accts.length := by rw [setCash_len']; exact h.ht
  rw [h.l'] at hne
  by_cases hk : c = k
  · subst hk
    rw [cashAt_set ht (by rw [set_cash_len h.ht]; exact h.htc), cashAt_set h.hv h.hvc] at hne
    refine ⟨rfl, ?_⟩
    by_cases h1 : t = u
    · exact .inr h1.symm
    · by_cases h2 : v = u
      · exact .inl h2.symm
      · simp [h1, h2] at hne
  · rw [cashAt_other hk, cashAt_other hk] at hne
    exact absurd rfl hne
end Go.Proofs.YtmimhimlgbklpaaGreatDoor.LedW
namespace Go.Proofs.YtmimhimlgbklpaaGreatDoor.LedW
open Go.RowKit Go.Proofs.YtmimhimlgbklpaaGreatDoor.Bas Go.Proofs.YtmimhimlgbklpaaGreatDoor.LedM Go.Proofs.YtmimhimlgbklpaaGreatDoor.FixpM

def zeroS : Lists := ⟨none, 0, none, 0, none, 0, none, 0, none, 0, none, 0, none, 0, none, 0⟩
theorem zero_own (base : Nat) (W : World) : LedOwn base W zeroS zeroLed [] :=
  ⟨World.ownsRow_nil _ _ _ _, World.ownsRow_nil _ _ _ _, World.ownsRow_nil _ _ _ _, World.ownsRow_nil _ _ _ _, World.ownsRow_nil _ _ _ _, World.ownsRow_nil _ _ _ _, World.ownsRow_nil _ _ _ _, World.ownsRow_nil _ _ _ _, rfl, by simp, by simp, by simp⟩
theorem LedOwn.addr {base : Nat} {W : World} {s : Lists} {l : Led} {us : List (Value × Acc)} (h : LedOwn base W s l us) (hn : 0 < l.accts.length) : ∃ g, s.a4 = some ⟨g, 0, none⟩ := by
  rcases h.accts.2 with ⟨_, h0⟩ | ⟨g, cap, cur, e1, _⟩
  · omega
  · injection e1 with e1
    exact ⟨g, e1⟩
theorem LedOwn.len {base : Nat} {W : World} {s : Lists} {l : Led} {us : List (Value × Acc)} (h : LedOwn base W s l us) : us.length = l.accts.length := by rw [← h.each, List.length_map]
theorem LedOwn.acc {base : Nat} {W : World} {s : Lists} {l : Led} {us : List (Value × Acc)} (h : LedOwn base W s l us) {k : Nat} (hk : k < us.length) (hk2 : k < l.accts.length) : us[k].2 = l.accts[k] := LedAt.acc h.at_ hk hk2
theorem LedOwn.cashCell {base : Nat} {W : World} {s : Lists} {l : Led} {us : List (Value × Acc)} (h : LedOwn base W s l us) {k : Nat} (hk : k < us.length) {g : Nat} (ha : s.a4 = some ⟨g, 0, none⟩) : W.cell? ⟨g, k * 4 + 1, none⟩ = some us[k].1 := by
  have hlen := h.len
  have hrow := h.accts
  rw [ha] at hrow
  have hcell := hrow.cellAt (k * 4 + 1) (by omega)
  rw [flat_cell (f := accC) (n := 4) (fun _ => rfl) hk (by decide)] at hcell
  rw [hcell]
  rfl
/-- where an account's cash lies -/
theorem LedOwn.row {base : Nat} {W : World} {s : Lists} {l : Led} {us : List (Value × Acc)} (h : LedOwn base W s l us) {v c : Nat} (hv : v < us.length) (hvl : v < l.accts.length) (hc : c < (l.accts[v]).cash.length) :
    ∃ g cap, us[v].1 = .slice (some ⟨g, 0, none⟩) (l.accts[v]).cash.length cap ∧ base ≤ g ∧ g < W.heap.size ∧ W.cell? ⟨g, c, none⟩ = some (.int .i64 (cashAt l v c)) ∧ W.frozen? ⟨g, c, none⟩ = false ∧
      ∀ x, LedOwn base (W.setCell ⟨g, c, none⟩ (.int .i64 x)) s (setCash l v c x) (us.modify v (putV c x)) := by
  have ha := h.acc hv hvl
  have hc' : c < us[v].2.cash.length := by rw [ha]; exact hc
  obtain ⟨g, cap, e1, h1, h2, h3, h4, _⟩ := h.put hv hc' 0
  refine ⟨g, cap, by rw [← ha]; exact e1, h1, h2, by rw [h3, cashAt_at hvl, ha], h4, fun x => ?_⟩
  obtain ⟨g', cap', e1', _, _, _, _, h5⟩ := h.put hv hc' x
  rw [e1] at e1'
  cases e1'
  exact h5
theorem own_not {base : Nat} {W : World} {s : Lists} {l : Led} {us : List (Value × Acc)} (h : LedOwn base W s l us) {v : Nat} (hv : v < us.length) {g cap n : Nat} (he : us[v].1 = .slice (some ⟨g, 0, none⟩) n cap) {j j' : Nat} {cs cs' : Array Value} (hb : Box W j 31 cs) (hb' : Box W j' 31 cs') : g ≠ j ∧ g ≠ j' := by
  have hown := h.cash _ (List.getElem_mem hv)
  rcases hown.2 with ⟨h0, _⟩ | ⟨g', cap', cur, e1, _, hg, _⟩
  · rw [he] at h0; cases h0
  · rw [he] at e1
    cases e1
    have ne : ∀ {j : Nat} {cs : Array Value}, Box W j 31 cs → g ≠ j := by
      rintro j cs hj rfl
      unfold Box at hj
      rw [hg] at hj
      injection hj with hj
      injection hj with _ ht
      exact absurd ht (by decide)
    exact ⟨ne hb, ne hb'⟩
theorem setCash_len (l : Led) (v c : Nat) (x : Int) : (setCash l v c x).accts.length = l.accts.length := by simp [setCash]
theorem setCash_cash (l : Led) (v c : Nat) (x : Int) (u : Nat) (hu : u < l.accts.length) : ((setCash l v c x).accts[u]'(by rw [setCash_len]; exact hu)).cash.length = (l.accts[u]).cash.length := by
  simp only [setCash, List.getElem_modify]
  split
  · simp [putCash]
  · rfl
theorem cash_i64 {l : Led} (hf : LedFit l) (v c : Nat) : FixpW.I64 (cashAt l v c) := by
  unfold cashAt
  cases hv : l.accts[v]? with
  | none => exact ⟨by simp, by simp⟩
  | some a =>
    have hm := List.mem_of_getElem? hv
    have h9 := (hf.accts _ hm).2.2.1
    show FixpW.I64 (a.cash.getD c 0)
    rw [List.getD_eq_getElem?_getD]
    cases hc : a.cash[c]? with
    | none => exact ⟨by simp, by simp⟩
    | some z => exact h9 _ (List.mem_of_getElem? hc)
set_option maxHeartbeats 4000000 in
set_option maxRecDepth 100000 in
theorem pay_calls (s : Lists) (l : Led) (vs : List (Value × Acc)) (cur amount fr to_ : Int) (w : World) (hat : LedAt w s l vs) (hf : LedFit l) (ha : FixpW.I64 amount) :
    Calls Tryz.prog 9 #[ledV s l, .int .i64 cur, .int .i64 amount, .int .i64 fr, .int .i64 to_] w fun e w' => ∃ s' l' us er, e = .returned (.tuple #[ledV s' l', .int .i64 er]) ∧ payF l cur amount fr to_ = (l', er) ∧ LedOwn w.heap.size w' s' l' us ∧ Below w.heap.size w w' := by
  unfold ledV
  obtain ⟨n1, n2, n3, n4, n5, n6, n7, n8⟩ := hf.len
  have X := (ledH_new w s l vs hat).alloc (.cells zeroL 31)
  have Z := Box.new (w.alloc (.cells #[.int .i64 l.day, .slice s.a1 l.curs.length s.c1, .slice s.a2 l.unders.length s.c2, .slice s.a3 l.instrs.length s.c3, .slice s.a4 l.accts.length s.c4, .slice s.a5 l.poss.length s.c5, .slice s.a6 l.orders.length s.c6, .slice s.a7 l.avail.length s.c7, .slice s.a8 l.locs.length s.c8] 31)) 31 zeroL
  rw [World.size_alloc] at Z
  have HFit := Lib.hid hf
  clear hat hf
  go_enter Tryz.func9, Tryz.ntmps9
  go_upto_region 1 with fail
  change Code.wp _ _ _ _ ((w.alloc (.cells #[.int .i64 l.day, .slice s.a1 l.curs.length s.c1, .slice s.a2 l.unders.length s.c2, .slice s.a3 l.instrs.length s.c3, .slice s.a4 l.accts.length s.c4, .slice s.a5 l.poss.length s.c5, .slice s.a6 l.orders.length s.c6, .slice s.a7 l.avail.length s.c7, .slice s.a8 l.locs.length s.c8] 31)).alloc (.cells zeroL 31))
  generalize ((w.alloc (.cells #[.int .i64 l.day, .slice s.a1 l.curs.length s.c1, .slice s.a2 l.unders.length s.c2, .slice s.a3 l.instrs.length s.c3, .slice s.a4 l.accts.length s.c4, .slice s.a5 l.poss.length s.c5, .slice s.a6 l.orders.length s.c6, .slice s.a7 l.avail.length s.c7, .slice s.a8 l.locs.length s.c8] 31)).alloc (.cells zeroL 31)) = w0 at *
  have HZ := Lib.hid Z
  clear Z
  go_wp2_with fail
  go_loop [20] (fun i => ∃ q : Int, i = .int .i64 q ∧ Hid (q = 0 ∨ (q = 1 ∧ endF l cur fr = 0) ∨ (q = 2 ∧ endF l cur fr = 0 ∧ endF l cur to_ = 0))) (fun i => (2 - intOf i).toNat)
  case atStart => exact ⟨0, rfl, .inl rfl⟩
  case round =>
    obtain ⟨q, rfl, H⟩ := hrel
    rcases H.out with rfl | ⟨rfl, h1⟩ | ⟨rfl, h1, h2⟩
    · skip
      have iq : ∀ W, (Instr.index 61 (.agg #[.int .i64 fr, .int .i64 to_]) (.int .i64 0)).run Tryz.prog W = .ok (.int .i64 fr) W := fun _ => by kernel_rfl
      have e4 := X.c4
      by_cases hv : 0 ≤ fr ∧ fr < l.accts.length
      rotate_left
      · have HP : Hid (payF l cur amount fr to_ = (zeroLed, 33)) := payF_bad1 (endF_acct hv) (by decide)
        by_cases hv0 : fr < 0
        · clear hv H
          have f0 : w0.cell? ⟨w.heap.size + 1, 0, none⟩ = some (.int .i64 0) := HZ.out.cell 0
          have r0 : w0.frozen? ⟨w.heap.size + 1, 0, none⟩ = false := HZ.out.frozen 0
          have f1 : w0.cell? ⟨w.heap.size + 1, 1, none⟩ = some (.slice none 0 0) := HZ.out.cell 1
          have r1 : w0.frozen? ⟨w.heap.size + 1, 1, none⟩ = false := HZ.out.frozen 1
          have f2 : w0.cell? ⟨w.heap.size + 1, 2, none⟩ = some (.slice none 0 0) := HZ.out.cell 2
          have r2 : w0.frozen? ⟨w.heap.size + 1, 2, none⟩ = false := HZ.out.frozen 2
          have f3 : w0.cell? ⟨w.heap.size + 1, 3, none⟩ = some (.slice none 0 0) := HZ.out.cell 3
          have r3 : w0.frozen? ⟨w.heap.size + 1, 3, none⟩ = false := HZ.out.frozen 3
          have f4 : w0.cell? ⟨w.heap.size + 1, 4, none⟩ = some (.slice none 0 0) := HZ.out.cell 4
          have r4 : w0.frozen? ⟨w.heap.size + 1, 4, none⟩ = false := HZ.out.frozen 4
          have f5 : w0.cell? ⟨w.heap.size + 1, 5, none⟩ = some (.slice none 0 0) := HZ.out.cell 5
          have r5 : w0.frozen? ⟨w.heap.size + 1, 5, none⟩ = false := HZ.out.frozen 5
          have f6 : w0.cell? ⟨w.heap.size + 1, 6, none⟩ = some (.slice none 0 0) := HZ.out.cell 6
          have r6 : w0.frozen? ⟨w.heap.size + 1, 6, none⟩ = false := HZ.out.frozen 6
          have f7 : w0.cell? ⟨w.heap.size + 1, 7, none⟩ = some (.slice none 0 0) := HZ.out.cell 7
          have r7 : w0.frozen? ⟨w.heap.size + 1, 7, none⟩ = false := HZ.out.frozen 7
          have f8 : w0.cell? ⟨w.heap.size + 1, 8, none⟩ = some (.slice none 0 0) := HZ.out.cell 8
          have r8 : w0.frozen? ⟨w.heap.size + 1, 8, none⟩ = false := HZ.out.frozen 8
          go_wp2_with fail
          clear f0 r0 f1 r1 f2 r2 f3 r3 f4 r4 f5 r5 f6 r6 f7 r7 f8 r8
          exact bodyPost_ret (results_cell_slot (by rfl) _ _ (fill_box HZ.out _ _ _ _ _ _ _ _ _) Tryz.underlying31 rfl (by kernel_rfl) rfl) rfl ⟨zeroS, zeroLed, [], 33, rfl, HP.out, zero_own _ _, fill_low X.low (by omega) _ _ _ _ _ _ _ _ _⟩
        · have hge : (l.accts.length : Int) ≤ fr := by omega
          clear hv H
          have f0 : w0.cell? ⟨w.heap.size + 1, 0, none⟩ = some (.int .i64 0) := HZ.out.cell 0
          have r0 : w0.frozen? ⟨w.heap.size + 1, 0, none⟩ = false := HZ.out.frozen 0
          have f1 : w0.cell? ⟨w.heap.size + 1, 1, none⟩ = some (.slice none 0 0) := HZ.out.cell 1
          have r1 : w0.frozen? ⟨w.heap.size + 1, 1, none⟩ = false := HZ.out.frozen 1
          have f2 : w0.cell? ⟨w.heap.size + 1, 2, none⟩ = some (.slice none 0 0) := HZ.out.cell 2
          have r2 : w0.frozen? ⟨w.heap.size + 1, 2, none⟩ = false := HZ.out.frozen 2
          have f3 : w0.cell? ⟨w.heap.size + 1, 3, none⟩ = some (.slice none 0 0) := HZ.out.cell 3
          have r3 : w0.frozen? ⟨w.heap.size + 1, 3, none⟩ = false := HZ.out.frozen 3
          have f4 : w0.cell? ⟨w.heap.size + 1, 4, none⟩ = some (.slice none 0 0) := HZ.out.cell 4
          have r4 : w0.frozen? ⟨w.heap.size + 1, 4, none⟩ = false := HZ.out.frozen 4
          have f5 : w0.cell? ⟨w.heap.size + 1, 5, none⟩ = some (.slice none 0 0) := HZ.out.cell 5
          have r5 : w0.frozen? ⟨w.heap.size + 1, 5, none⟩ = false := HZ.out.frozen 5
          have f6 : w0.cell? ⟨w.heap.size + 1, 6, none⟩ = some (.slice none 0 0) := HZ.out.cell 6
          have r6 : w0.frozen? ⟨w.heap.size + 1, 6, none⟩ = false := HZ.out.frozen 6
          have f7 : w0.cell? ⟨w.heap.size + 1, 7, none⟩ = some (.slice none 0 0) := HZ.out.cell 7
          have r7 : w0.frozen? ⟨w.heap.size + 1, 7, none⟩ = false := HZ.out.frozen 7
          have f8 : w0.cell? ⟨w.heap.size + 1, 8, none⟩ = some (.slice none 0 0) := HZ.out.cell 8
          have r8 : w0.frozen? ⟨w.heap.size + 1, 8, none⟩ = false := HZ.out.frozen 8
          go_wp2_with fail
          clear f0 r0 f1 r1 f2 r2 f3 r3 f4 r4 f5 r5 f6 r6 f7 r7 f8 r8
          exact bodyPost_ret (results_cell_slot (by rfl) _ _ (fill_box HZ.out _ _ _ _ _ _ _ _ _) Tryz.underlying31 rfl (by kernel_rfl) rfl) rfl ⟨zeroS, zeroLed, [], 33, rfl, HP.out, zero_own _ _, fill_low X.low (by omega) _ _ _ _ _ _ _ _ _⟩
      obtain ⟨m, rfl⟩ : ∃ m : Nat, fr = m := ⟨fr.toNat, by omega⟩
      have hm : m < l.accts.length := by omega
      have hmv : m < vs.length := by rw [LedAt.len X.at_]; exact hm
      obtain ⟨b, off, hA, C1⟩ := rec_at len_acc (by decide) X.at_.accts hmv
      obtain ⟨ca, cc, hxv, _, _⟩ := X.at_.cash _ (List.getElem_mem hmv)
      have c1 := C1 1 _ rfl
      have hlen : cashLen l m = vs[m].2.cash.length := by rw [cashLen_at hm, ← LedAt.acc X.at_ hmv hm]
      rw [hxv] at c1
      clear C1 hxv
      simp only [← Nat.add_assoc] at c1
      rw [hA] at e4
      have HLen := Lib.hid hlen
      clear hA hlen
      obtain ⟨hv1, hv2⟩ := hv
      by_cases hc : 0 ≤ cur ∧ cur < cashLen l m
      rotate_left
      · have HP : Hid (payF l cur amount (m : Int) to_ = (zeroLed, 30)) := payF_bad1 (endF_cur ⟨hv1, hv2⟩ hc) (by decide)
        rw [HLen.out] at hc
        by_cases hc0 : cur < 0
        · clear hc H
          have f0 : w0.cell? ⟨w.heap.size + 1, 0, none⟩ = some (.int .i64 0) := HZ.out.cell 0
          have r0 : w0.frozen? ⟨w.heap.size + 1, 0, none⟩ = false := HZ.out.frozen 0
          have f1 : w0.cell? ⟨w.heap.size + 1, 1, none⟩ = some (.slice none 0 0) := HZ.out.cell 1
          have r1 : w0.frozen? ⟨w.heap.size + 1, 1, none⟩ = false := HZ.out.frozen 1
          have f2 : w0.cell? ⟨w.heap.size + 1, 2, none⟩ = some (.slice none 0 0) := HZ.out.cell 2
          have r2 : w0.frozen? ⟨w.heap.size + 1, 2, none⟩ = false := HZ.out.frozen 2
          have f3 : w0.cell? ⟨w.heap.size + 1, 3, none⟩ = some (.slice none 0 0) := HZ.out.cell 3
          have r3 : w0.frozen? ⟨w.heap.size + 1, 3, none⟩ = false := HZ.out.frozen 3
          have f4 : w0.cell? ⟨w.heap.size + 1, 4, none⟩ = some (.slice none 0 0) := HZ.out.cell 4
          have r4 : w0.frozen? ⟨w.heap.size + 1, 4, none⟩ = false := HZ.out.frozen 4
          have f5 : w0.cell? ⟨w.heap.size + 1, 5, none⟩ = some (.slice none 0 0) := HZ.out.cell 5
          have r5 : w0.frozen? ⟨w.heap.size + 1, 5, none⟩ = false := HZ.out.frozen 5
          have f6 : w0.cell? ⟨w.heap.size + 1, 6, none⟩ = some (.slice none 0 0) := HZ.out.cell 6
          have r6 : w0.frozen? ⟨w.heap.size + 1, 6, none⟩ = false := HZ.out.frozen 6
          have f7 : w0.cell? ⟨w.heap.size + 1, 7, none⟩ = some (.slice none 0 0) := HZ.out.cell 7
          have r7 : w0.frozen? ⟨w.heap.size + 1, 7, none⟩ = false := HZ.out.frozen 7
          have f8 : w0.cell? ⟨w.heap.size + 1, 8, none⟩ = some (.slice none 0 0) := HZ.out.cell 8
          have r8 : w0.frozen? ⟨w.heap.size + 1, 8, none⟩ = false := HZ.out.frozen 8
          go_wp2_with fail
          clear f0 r0 f1 r1 f2 r2 f3 r3 f4 r4 f5 r5 f6 r6 f7 r7 f8 r8
          exact bodyPost_ret (results_cell_slot (by rfl) _ _ (fill_box HZ.out _ _ _ _ _ _ _ _ _) Tryz.underlying31 rfl (by kernel_rfl) rfl) rfl ⟨zeroS, zeroLed, [], 30, rfl, HP.out, zero_own _ _, fill_low X.low (by omega) _ _ _ _ _ _ _ _ _⟩
        · have hge : (vs[m].2.cash.length : Int) ≤ cur := by omega
          clear hc H
          have f0 : w0.cell? ⟨w.heap.size + 1, 0, none⟩ = some (.int .i64 0) := HZ.out.cell 0
          have r0 : w0.frozen? ⟨w.heap.size + 1, 0, none⟩ = false := HZ.out.frozen 0
          have f1 : w0.cell? ⟨w.heap.size + 1, 1, none⟩ = some (.slice none 0 0) := HZ.out.cell 1
          have r1 : w0.frozen? ⟨w.heap.size + 1, 1, none⟩ = false := HZ.out.frozen 1
          have f2 : w0.cell? ⟨w.heap.size + 1, 2, none⟩ = some (.slice none 0 0) := HZ.out.cell 2
          have r2 : w0.frozen? ⟨w.heap.size + 1, 2, none⟩ = false := HZ.out.frozen 2
          have f3 : w0.cell? ⟨w.heap.size + 1, 3, none⟩ = some (.slice none 0 0) := HZ.out.cell 3
          have r3 : w0.frozen? ⟨w.heap.size + 1, 3, none⟩ = false := HZ.out.frozen 3
          have f4 : w0.cell? ⟨w.heap.size + 1, 4, none⟩ = some (.slice none 0 0) := HZ.out.cell 4
          have r4 : w0.frozen? ⟨w.heap.size + 1, 4, none⟩ = false := HZ.out.frozen 4
          have f5 : w0.cell? ⟨w.heap.size + 1, 5, none⟩ = some (.slice none 0 0) := HZ.out.cell 5
          have r5 : w0.frozen? ⟨w.heap.size + 1, 5, none⟩ = false := HZ.out.frozen 5
          have f6 : w0.cell? ⟨w.heap.size + 1, 6, none⟩ = some (.slice none 0 0) := HZ.out.cell 6
          have r6 : w0.frozen? ⟨w.heap.size + 1, 6, none⟩ = false := HZ.out.frozen 6
          have f7 : w0.cell? ⟨w.heap.size + 1, 7, none⟩ = some (.slice none 0 0) := HZ.out.cell 7
          have r7 : w0.frozen? ⟨w.heap.size + 1, 7, none⟩ = false := HZ.out.frozen 7
          have f8 : w0.cell? ⟨w.heap.size + 1, 8, none⟩ = some (.slice none 0 0) := HZ.out.cell 8
          have r8 : w0.frozen? ⟨w.heap.size + 1, 8, none⟩ = false := HZ.out.frozen 8
          go_wp2_with fail
          clear f0 r0 f1 r1 f2 r2 f3 r3 f4 r4 f5 r5 f6 r6 f7 r7 f8 r8
          exact bodyPost_ret (results_cell_slot (by rfl) _ _ (fill_box HZ.out _ _ _ _ _ _ _ _ _) Tryz.underlying31 rfl (by kernel_rfl) rfl) rfl ⟨zeroS, zeroLed, [], 30, rfl, HP.out, zero_own _ _, fill_low X.low (by omega) _ _ _ _ _ _ _ _ _⟩
      have HE : Hid (endF l cur (m : Int) = 0) := endF_zero ⟨hv1, hv2⟩ hc
      rw [HLen.out] at hc
      obtain ⟨hc1, hc2⟩ := hc
      clear H
      go_wp2_with fail
      go_round
      case rel => exact ⟨1, rfl, .inr (.inl ⟨rfl, HE.out⟩)⟩
      case measure => simp [intOf]
    · skip
      have iq : ∀ W, (Instr.index 61 (.agg #[.int .i64 fr, .int .i64 to_]) (.int .i64 1)).run Tryz.prog W = .ok (.int .i64 to_) W := fun _ => by kernel_rfl
      have e4 := X.c4
      by_cases hv : 0 ≤ to_ ∧ to_ < l.accts.length
      rotate_left
      · have HP : Hid (payF l cur amount fr to_ = (zeroLed, 33)) := payF_bad2 h1 (endF_acct hv) (by decide)
        by_cases hv0 : to_ < 0
        · clear hv H
          have f0 : w0.cell? ⟨w.heap.size + 1, 0, none⟩ = some (.int .i64 0) := HZ.out.cell 0
          have r0 : w0.frozen? ⟨w.heap.size + 1, 0, none⟩ = false := HZ.out.frozen 0
          have f1 : w0.cell? ⟨w.heap.size + 1, 1, none⟩ = some (.slice none 0 0) := HZ.out.cell 1
          have r1 : w0.frozen? ⟨w.heap.size + 1, 1, none⟩ = false := HZ.out.frozen 1
          have f2 : w0.cell? ⟨w.heap.size + 1, 2, none⟩ = some (.slice none 0 0) := HZ.out.cell 2
          have r2 : w0.frozen? ⟨w.heap.size + 1, 2, none⟩ = false := HZ.out.frozen 2
          have f3 : w0.cell? ⟨w.heap.size + 1, 3, none⟩ = some (.slice none 0 0) := HZ.out.cell 3
          have r3 : w0.frozen? ⟨w.heap.size + 1, 3, none⟩ = false := HZ.out.frozen 3
          have f4 : w0.cell? ⟨w.heap.size + 1, 4, none⟩ = some (.slice none 0 0) := HZ.out.cell 4
          have r4 : w0.frozen? ⟨w.heap.size + 1, 4, none⟩ = false := HZ.out.frozen 4
          have f5 : w0.cell? ⟨w.heap.size + 1, 5, none⟩ = some (.slice none 0 0) := HZ.out.cell 5
          have r5 : w0.frozen? ⟨w.heap.size + 1, 5, none⟩ = false := HZ.out.frozen 5
          have f6 : w0.cell? ⟨w.heap.size + 1, 6, none⟩ = some (.slice none 0 0) := HZ.out.cell 6
          have r6 : w0.frozen? ⟨w.heap.size + 1, 6, none⟩ = false := HZ.out.frozen 6
          have f7 : w0.cell? ⟨w.heap.size + 1, 7, none⟩ = some (.slice none 0 0) := HZ.out.cell 7
          have r7 : w0.frozen? ⟨w.heap.size + 1, 7, none⟩ = false := HZ.out.frozen 7
          have f8 : w0.cell? ⟨w.heap.size + 1, 8, none⟩ = some (.slice none 0 0) := HZ.out.cell 8
          have r8 : w0.frozen? ⟨w.heap.size + 1, 8, none⟩ = false := HZ.out.frozen 8
          go_wp2_with fail
          clear f0 r0 f1 r1 f2 r2 f3 r3 f4 r4 f5 r5 f6 r6 f7 r7 f8 r8
          exact bodyPost_ret (results_cell_slot (by rfl) _ _ (fill_box HZ.out _ _ _ _ _ _ _ _ _) Tryz.underlying31 rfl (by kernel_rfl) rfl) rfl ⟨zeroS, zeroLed, [], 33, rfl, HP.out, zero_own _ _, fill_low X.low (by omega) _ _ _ _ _ _ _ _ _⟩
        · have hge : (l.accts.length : Int) ≤ to_ := by omega
          clear hv H
          have f0 : w0.cell? ⟨w.heap.size + 1, 0, none⟩ = some (.int .i64 0) := HZ.out.cell 0
          have r0 : w0.frozen? ⟨w.heap.size + 1, 0, none⟩ = false := HZ.out.frozen 0
          have f1 : w0.cell? ⟨w.heap.size + 1, 1, none⟩ = some (.slice none 0 0) := HZ.out.cell 1
          have r1 : w0.frozen? ⟨w.heap.size + 1, 1, none⟩ = false := HZ.out.frozen 1
          have f2 : w0.cell? ⟨w.heap.size + 1, 2, none⟩ = some (.slice none 0 0) := HZ.out.cell 2
          have r2 : w0.frozen? ⟨w.heap.size + 1, 2, none⟩ = false := HZ.out.frozen 2
          have f3 : w0.cell? ⟨w.heap.size + 1, 3, none⟩ = some (.slice none 0 0) := HZ.out.cell 3
          have r3 : w0.frozen? ⟨w.heap.size + 1, 3, none⟩ = false := HZ.out.frozen 3
          have f4 : w0.cell? ⟨w.heap.size + 1, 4, none⟩ = some (.slice none 0 0) := HZ.out.cell 4
          have r4 : w0.frozen? ⟨w.heap.size + 1, 4, none⟩ = false := HZ.out.frozen 4
          have f5 : w0.cell? ⟨w.heap.size + 1, 5, none⟩ = some (.slice none 0 0) := HZ.out.cell 5
          have r5 : w0.frozen? ⟨w.heap.size + 1, 5, none⟩ = false := HZ.out.frozen 5
          have f6 : w0.cell? ⟨w.heap.size + 1, 6, none⟩ = some (.slice none 0 0) := HZ.out.cell 6
          have r6 : w0.frozen? ⟨w.heap.size + 1, 6, none⟩ = false := HZ.out.frozen 6
          have f7 : w0.cell? ⟨w.heap.size + 1, 7, none⟩ = some (.slice none 0 0) := HZ.out.cell 7
          have r7 : w0.frozen? ⟨w.heap.size + 1, 7, none⟩ = false := HZ.out.frozen 7
          have f8 : w0.cell? ⟨w.heap.size + 1, 8, none⟩ = some (.slice none 0 0) := HZ.out.cell 8
          have r8 : w0.frozen? ⟨w.heap.size + 1, 8, none⟩ = false := HZ.out.frozen 8
          go_wp2_with fail
          clear f0 r0 f1 r1 f2 r2 f3 r3 f4 r4 f5 r5 f6 r6 f7 r7 f8 r8
          exact bodyPost_ret (results_cell_slot (by rfl) _ _ (fill_box HZ.out _ _ _ _ _ _ _ _ _) Tryz.underlying31 rfl (by kernel_rfl) rfl) rfl ⟨zeroS, zeroLed, [], 33, rfl, HP.out, zero_own _ _, fill_low X.low (by omega) _ _ _ _ _ _ _ _ _⟩
      obtain ⟨m, rfl⟩ : ∃ m : Nat, to_ = m := ⟨to_.toNat, by omega⟩
      have hm : m < l.accts.length := by omega
      have hmv : m < vs.length := by rw [LedAt.len X.at_]; exact hm
      obtain ⟨b, off, hA, C1⟩ := rec_at len_acc (by decide) X.at_.accts hmv
      obtain ⟨ca, cc, hxv, _, _⟩ := X.at_.cash _ (List.getElem_mem hmv)
      have c1 := C1 1 _ rfl
      have hlen : cashLen l m = vs[m].2.cash.length := by rw [cashLen_at hm, ← LedAt.acc X.at_ hmv hm]
      rw [hxv] at c1
      clear C1 hxv
      simp only [← Nat.add_assoc] at c1
      rw [hA] at e4
      have HLen := Lib.hid hlen
      clear hA hlen
      obtain ⟨hv1, hv2⟩ := hv
      by_cases hc : 0 ≤ cur ∧ cur < cashLen l m
      rotate_left
      · have HP : Hid (payF l cur amount fr (m : Int) = (zeroLed, 30)) := payF_bad2 h1 (endF_cur ⟨hv1, hv2⟩ hc) (by decide)
        rw [HLen.out] at hc
        by_cases hc0 : cur < 0
        · clear hc H
          have f0 : w0.cell? ⟨w.heap.size + 1, 0, none⟩ = some (.int .i64 0) := HZ.out.cell 0
          have r0 : w0.frozen? ⟨w.heap.size + 1, 0, none⟩ = false := HZ.out.frozen 0
          have f1 : w0.cell? ⟨w.heap.size + 1, 1, none⟩ = some (.slice none 0 0) := HZ.out.cell 1
          have r1 : w0.frozen? ⟨w.heap.size + 1, 1, none⟩ = false := HZ.out.frozen 1
          have f2 : w0.cell? ⟨w.heap.size + 1, 2, none⟩ = some (.slice none 0 0) := HZ.out.cell 2
          have r2 : w0.frozen? ⟨w.heap.size + 1, 2, none⟩ = false := HZ.out.frozen 2
          have f3 : w0.cell? ⟨w.heap.size + 1, 3, none⟩ = some (.slice none 0 0) := HZ.out.cell 3
          have r3 : w0.frozen? ⟨w.heap.size + 1, 3, none⟩ = false := HZ.out.frozen 3
          have f4 : w0.cell? ⟨w.heap.size + 1, 4, none⟩ = some (.slice none 0 0) := HZ.out.cell 4
          have r4 : w0.frozen? ⟨w.heap.size + 1, 4, none⟩ = false := HZ.out.frozen 4
          have f5 : w0.cell? ⟨w.heap.size + 1, 5, none⟩ = some (.slice none 0 0) := HZ.out.cell 5
          have r5 : w0.frozen? ⟨w.heap.size + 1, 5, none⟩ = false := HZ.out.frozen 5
          have f6 : w0.cell? ⟨w.heap.size + 1, 6, none⟩ = some (.slice none 0 0) := HZ.out.cell 6
          have r6 : w0.frozen? ⟨w.heap.size + 1, 6, none⟩ = false := HZ.out.frozen 6
          have f7 : w0.cell? ⟨w.heap.size + 1, 7, none⟩ = some (.slice none 0 0) := HZ.out.cell 7
          have r7 : w0.frozen? ⟨w.heap.size + 1, 7, none⟩ = false := HZ.out.frozen 7
          have f8 : w0.cell? ⟨w.heap.size + 1, 8, none⟩ = some (.slice none 0 0) := HZ.out.cell 8
          have r8 : w0.frozen? ⟨w.heap.size + 1, 8, none⟩ = false := HZ.out.frozen 8
          go_wp2_with fail
          clear f0 r0 f1 r1 f2 r2 f3 r3 f4 r4 f5 r5 f6 r6 f7 r7 f8 r8
          exact bodyPost_ret (results_cell_slot (by rfl) _ _ (fill_box HZ.out _ _ _ _ _ _ _ _ _) Tryz.underlying31 rfl (by kernel_rfl) rfl) rfl ⟨zeroS, zeroLed, [], 30, rfl, HP.out, zero_own _ _, fill_low X.low (by omega) _ _ _ _ _ _ _ _ _⟩
        · have hge : (vs[m].2.cash.length : Int) ≤ cur := by omega
          clear hc H
          have f0 : w0.cell? ⟨w.heap.size + 1, 0, none⟩ = some (.int .i64 0) := HZ.out.cell 0
          have r0 : w0.frozen? ⟨w.heap.size + 1, 0, none⟩ = false := HZ.out.frozen 0
          have f1 : w0.cell? ⟨w.heap.size + 1, 1, none⟩ = some (.slice none 0 0) := HZ.out.cell 1
          have r1 : w0.frozen? ⟨w.heap.size + 1, 1, none⟩ = false := HZ.out.frozen 1
          have f2 : w0.cell? ⟨w.heap.size + 1, 2, none⟩ = some (.slice none 0 0) := HZ.out.cell 2
          have r2 : w0.frozen? ⟨w.heap.size + 1, 2, none⟩ = false := HZ.out.frozen 2
          have f3 : w0.cell? ⟨w.heap.size + 1, 3, none⟩ = some (.slice none 0 0) := HZ.out.cell 3
          have r3 : w0.frozen? ⟨w.heap.size + 1, 3, none⟩ = false := HZ.out.frozen 3
          have f4 : w0.cell? ⟨w.heap.size + 1, 4, none⟩ = some (.slice none 0 0) := HZ.out.cell 4
          have r4 : w0.frozen? ⟨w.heap.size + 1, 4, none⟩ = false := HZ.out.frozen 4
          have f5 : w0.cell? ⟨w.heap.size + 1, 5, none⟩ = some (.slice none 0 0) := HZ.out.cell 5
          have r5 : w0.frozen? ⟨w.heap.size + 1, 5, none⟩ = false := HZ.out.frozen 5
          have f6 : w0.cell? ⟨w.heap.size + 1, 6, none⟩ = some (.slice none 0 0) := HZ.out.cell 6
          have r6 : w0.frozen? ⟨w.heap.size + 1, 6, none⟩ = false := HZ.out.frozen 6
          have f7 : w0.cell? ⟨w.heap.size + 1, 7, none⟩ = some (.slice none 0 0) := HZ.out.cell 7
          have r7 : w0.frozen? ⟨w.heap.size + 1, 7, none⟩ = false := HZ.out.frozen 7
          have f8 : w0.cell? ⟨w.heap.size + 1, 8, none⟩ = some (.slice none 0 0) := HZ.out.cell 8
          have r8 : w0.frozen? ⟨w.heap.size + 1, 8, none⟩ = false := HZ.out.frozen 8
          go_wp2_with fail
          clear f0 r0 f1 r1 f2 r2 f3 r3 f4 r4 f5 r5 f6 r6 f7 r7 f8 r8
          exact bodyPost_ret (results_cell_slot (by rfl) _ _ (fill_box HZ.out _ _ _ _ _ _ _ _ _) Tryz.underlying31 rfl (by kernel_rfl) rfl) rfl ⟨zeroS, zeroLed, [], 30, rfl, HP.out, zero_own _ _, fill_low X.low (by omega) _ _ _ _ _ _ _ _ _⟩
      have HE : Hid (endF l cur (m : Int) = 0) := endF_zero ⟨hv1, hv2⟩ hc
      rw [HLen.out] at hc
      obtain ⟨hc1, hc2⟩ := hc
      clear H
      go_wp2_with fail
      go_round
      case rel => exact ⟨2, rfl, .inr (.inr ⟨rfl, h1, HE.out⟩)⟩
      case measure => simp [intOf]
    · obtain ⟨hf1, hf2, hf3, hf4⟩ := endF_ok h1
      obtain ⟨ht1, ht2, ht3, ht4⟩ := endF_ok h2
      obtain ⟨m, rfl⟩ : ∃ m : Nat, fr = m := ⟨fr.toNat, by omega⟩
      obtain ⟨t, rfl⟩ : ∃ t : Nat, to_ = t := ⟨to_.toNat, by omega⟩
      obtain ⟨c, rfl⟩ : ∃ c : Nat, cur = c := ⟨cur.toNat, by omega⟩
      simp only [Int.toNat_natCast] at hf4 ht4
      have hm : m < l.accts.length := by omega
      have htl : t < l.accts.length := by omega
      rw [cashLen_at hm] at hf4
      rw [cashLen_at htl] at ht4
      have H1 := Lib.hid h1
      have H2 := Lib.hid h2
      clear h1 h2 H
      have C := Lib.hid (copy_calls s l vs w0 X.at_ HFit.out)
      unfold ledV at C
      have XH := Lib.hid X
      have d0 := X.c0; have d1 := X.c1; have d2 := X.c2; have d3 := X.c3; have d4 := X.c4; have d5 := X.c5; have d6 := X.c6; have d7 := X.c7; have d8 := X.c8
      clear X
      go_upto_region 10 with (go_at_call 28; refine C.out.mono ?_; rintro e w1 ⟨s', us, rfl, own, b1⟩)
      have B14 := Box.new w1 31 #[.int .i64 l.day, .slice s'.a1 l.curs.length s'.c1, .slice s'.a2 l.unders.length s'.c2, .slice s'.a3 l.instrs.length s'.c3, .slice s'.a4 l.accts.length s'.c4, .slice s'.a5 l.poss.length s'.c5, .slice s'.a6 l.orders.length s'.c6, .slice s'.a7 l.avail.length s'.c7, .slice s'.a8 l.locs.length s'.c8]
      have Z2 := (HZ.out.keep b1).alloc (.cells #[.int .i64 l.day, .slice s'.a1 l.curs.length s'.c1, .slice s'.a2 l.unders.length s'.c2, .slice s'.a3 l.instrs.length s'.c3, .slice s'.a4 l.accts.length s'.c4, .slice s'.a5 l.poss.length s'.c5, .slice s'.a6 l.orders.length s'.c6, .slice s'.a7 l.avail.length s'.c7, .slice s'.a8 l.locs.length s'.c8] 31)
      have O2 := (own.mono XH.out.low.size).below ((Below.refl _ _).alloc (Nat.le_refl _) (.cells #[.int .i64 l.day, .slice s'.a1 l.curs.length s'.c1, .slice s'.a2 l.unders.length s'.c2, .slice s'.a3 l.instrs.length s'.c3, .slice s'.a4 l.accts.length s'.c4, .slice s'.a5 l.poss.length s'.c5, .slice s'.a6 l.orders.length s'.c6, .slice s'.a7 l.avail.length s'.c7, .slice s'.a8 l.locs.length s'.c8] 31))
      have L1 := XH.out.low.trans (b1.mono XH.out.low.size)
      have hne : w.heap.size + 1 ≠ w1.heap.size := by have := HZ.out.lt; have := b1.size; omega
      have L2 := L1.alloc L1.size (.cells #[.int .i64 l.day, .slice s'.a1 l.curs.length s'.c1, .slice s'.a2 l.unders.length s'.c2, .slice s'.a3 l.instrs.length s'.c3, .slice s'.a4 l.accts.length s'.c4, .slice s'.a5 l.poss.length s'.c5, .slice s'.a6 l.orders.length s'.c6, .slice s'.a7 l.avail.length s'.c7, .slice s'.a8 l.locs.length s'.c8] 31)
      have hlow := L1.size
      clear d0 d1 d2 d3 d4 d5 d6 d7 d8 own b1 XH C L1 HZ
      generalize w1.alloc (.cells #[.int .i64 l.day, .slice s'.a1 l.curs.length s'.c1, .slice s'.a2 l.unders.length s'.c2, .slice s'.a3 l.instrs.length s'.c3, .slice s'.a4 l.accts.length s'.c4, .slice s'.a5 l.poss.length s'.c5, .slice s'.a6 l.orders.length s'.c6, .slice s'.a7 l.avail.length s'.c7, .slice s'.a8 l.locs.length s'.c8] 31) = w2 at *
      generalize w1.heap.size = g14 at *
      obtain ⟨g4, h4⟩ := O2.addr (by omega)
      have hmu : m < us.length := by rw [O2.len]; exact hm
      obtain ⟨g, cap, e1, hg1, hg2, kc, kf, HP⟩ := O2.row hmu hm (c := c) (by omega)
      have k4 : w2.cell? ⟨g14, 4, none⟩ = some (.slice s'.a4 l.accts.length s'.c4) := B14.cell 4
      have k5 := O2.cashCell hmu h4
      rw [e1] at k5
      rw [h4] at k4
      have hI : FixpW.I64 (cashAt l m c) := by
        rw [cashAt_at hm]
        have h9 := (HFit.out.accts _ (List.getElem_mem hm)).2.2.1
        rw [List.getD_eq_getElem?_getD, List.getElem?_eq_getElem (by omega)]
        exact h9 _ (List.getElem_mem _)
      have S := FixpW.sub_calls (cashAt l m c) amount w2 hI ha
      have T1 := Lib.hid (FixpW.two_subF (cashAt l m c) amount)
      have HSub := Lib.hid (fun x1 x2 hx hne => payF_sub (amount := amount) (x1 := x1) (x2 := x2) H1.out H2.out hx hne)
      have HX : Hid (subF (cashAt l m c) amount = subF (cashAt l m c) amount) := rfl
      generalize hq : subF (cashAt l m c) amount = q at S T1
      obtain ⟨x1, x2⟩ := q
      have HQ := Lib.hid hq
      have HB := Lib.hid B14
      have HZ2 := Lib.hid Z2
      have HO := Lib.hid O2
      have HL := Lib.hid L2
      have HPP := Lib.hid HP
      have HE1 := Lib.hid e1
      have H4 := Lib.hid h4
      have SH := Lib.hid S
      clear hq B14 Z2 O2 L2 HP e1 h4 S HX hI
      by_cases hx : x2 = 0
      rotate_left
      · have hxb : (x2 != 0) = true := by simpa using hx
        have HR := Lib.hid (HSub.out x1 x2 (by simpa using HQ.out) hx)
        clear hx HSub
        have f0 : w2.cell? ⟨w.heap.size + 1, 0, none⟩ = some (.int .i64 0) := HZ2.out.cell 0
        have r0 : w2.frozen? ⟨w.heap.size + 1, 0, none⟩ = false := HZ2.out.frozen 0
        have f1 : w2.cell? ⟨w.heap.size + 1, 1, none⟩ = some (.slice none 0 0) := HZ2.out.cell 1
        have r1 : w2.frozen? ⟨w.heap.size + 1, 1, none⟩ = false := HZ2.out.frozen 1
        have f2 : w2.cell? ⟨w.heap.size + 1, 2, none⟩ = some (.slice none 0 0) := HZ2.out.cell 2
        have r2 : w2.frozen? ⟨w.heap.size + 1, 2, none⟩ = false := HZ2.out.frozen 2
        have f3 : w2.cell? ⟨w.heap.size + 1, 3, none⟩ = some (.slice none 0 0) := HZ2.out.cell 3
        have r3 : w2.frozen? ⟨w.heap.size + 1, 3, none⟩ = false := HZ2.out.frozen 3
        have f4 : w2.cell? ⟨w.heap.size + 1, 4, none⟩ = some (.slice none 0 0) := HZ2.out.cell 4
        have r4 : w2.frozen? ⟨w.heap.size + 1, 4, none⟩ = false := HZ2.out.frozen 4
        have f5 : w2.cell? ⟨w.heap.size + 1, 5, none⟩ = some (.slice none 0 0) := HZ2.out.cell 5
        have r5 : w2.frozen? ⟨w.heap.size + 1, 5, none⟩ = false := HZ2.out.frozen 5
        have f6 : w2.cell? ⟨w.heap.size + 1, 6, none⟩ = some (.slice none 0 0) := HZ2.out.cell 6
        have r6 : w2.frozen? ⟨w.heap.size + 1, 6, none⟩ = false := HZ2.out.frozen 6
        have f7 : w2.cell? ⟨w.heap.size + 1, 7, none⟩ = some (.slice none 0 0) := HZ2.out.cell 7
        have r7 : w2.frozen? ⟨w.heap.size + 1, 7, none⟩ = false := HZ2.out.frozen 7
        have f8 : w2.cell? ⟨w.heap.size + 1, 8, none⟩ = some (.slice none 0 0) := HZ2.out.cell 8
        have r8 : w2.frozen? ⟨w.heap.size + 1, 8, none⟩ = false := HZ2.out.frozen 8
        go_wp2_with (go_at_call 29; refine SH.out.mono ?_; rintro e w' ⟨rfl, rfl⟩)
        clear f0 r0 f1 r1 f2 r2 f3 r3 f4 r4 f5 r5 f6 r6 f7 r7 f8 r8
        exact bodyPost_ret (results_cell_slot (by rfl) _ _ (fill_box HZ2.out _ _ _ _ _ _ _ _ _) Tryz.underlying31 rfl (by kernel_rfl) rfl) rfl ⟨zeroS, zeroLed, [], x2, rfl, HR.out, zero_own _ _, fill_low HL.out (by omega) _ _ _ _ _ _ _ _ _⟩
      subst hx
      go_upto_region 14 with (go_at_call 29; refine SH.out.mono ?_; rintro e w' ⟨rfl, rfl⟩)
      have hgb : g ≠ g14 ∧ g ≠ w.heap.size + 1 := own_not HO.out hmu HE1.out HB.out HZ2.out
      have O3 := HPP.out x1
      have B3 := HB.out.far (p := ⟨g, c, none⟩) (fun e => hgb.1 e.symm) (.int .i64 x1)
      have Z3 := HZ2.out.far (p := ⟨g, c, none⟩) (fun e => hgb.2 e.symm) (.int .i64 x1)
      have L3 := HL.out.setCell (p := ⟨g, c, none⟩) hg1 (.int .i64 x1)
      have htu : t < (us.modify m (putV c x1)).length := by rw [O3.len, setCash_len]; exact htl
      have htl2 : t < (setCash l m c x1).accts.length := by rw [setCash_len]; exact htl
      obtain ⟨g', cap', e2, hg3, hg4, kc2, kf2, HP3⟩ := O3.row htu htl2 (c := c) (by rw [setCash_cash l m c x1 t htl]; omega)
      have k42 : (w2.setCell ⟨g, c, none⟩ (.int .i64 x1)).cell? ⟨g14, 4, none⟩ = some (.slice s'.a4 l.accts.length s'.c4) := B3.cell 4
      have k52 := O3.cashCell htu H4.out
      rw [e2, setCash_cash l m c x1 t htl] at k52
      rw [H4.out] at k42
      have hI2 : FixpW.I64 (cashAt (setCash l m c x1) t c) := by
        rw [cashAt_set hm (by omega)]
        split
        · rcases T1.out with h | ⟨_, h⟩
          · cases h
          · exact FixpW.i64_of_fits h
        · exact cash_i64 HFit.out _ _
      have S2 := FixpW.add_calls (cashAt (setCash l m c x1) t c) amount (w2.setCell ⟨g, c, none⟩ (.int .i64 x1)) hI2 ha
      have HAdd := Lib.hid (fun y1 y2 hy hne => payF_add (amount := amount) (x1 := x1) (y1 := y1) (y2 := y2) H1.out H2.out (by simpa using HQ.out) hy hne)
      have HOk := Lib.hid (fun y1 hy => payF_ok (amount := amount) (x1 := x1) (y1 := y1) H1.out H2.out (by simpa using HQ.out) hy)
      have SH2 := Lib.hid S2
      have HO3 := Lib.hid O3
      have HB3 := Lib.hid B3
      have HZ3 := Lib.hid Z3
      have HL3 := Lib.hid L3
      have HPP3 := Lib.hid HP3
      have HE2 := Lib.hid e2
      have htu' := Lib.hid htu
      have hg3' := Lib.hid hg3
      clear S2 O3 B3 Z3 L3 HP3 e2 T1 HSub HQ HPP hI2 hg3 hg4 k4 k5 kc kf HO HB HZ2 HL SH
      generalize hq : addF (cashAt (setCash l m c x1) t c) amount = q at SH2
      obtain ⟨y1, y2⟩ := q
      have HQ2 := Lib.hid hq
      clear hq
      generalize w2.setCell ⟨g, c, none⟩ (.int .i64 x1) = w3 at *
      by_cases hy : y2 = 0
      rotate_left
      · have hyb : (y2 != 0) = true := by simpa using hy
        have HR := Lib.hid (HAdd.out y1 y2 (by simpa using HQ2.out) hy)
        clear hy HAdd HOk
        have f0 : w3.cell? ⟨w.heap.size + 1, 0, none⟩ = some (.int .i64 0) := HZ3.out.cell 0
        have r0 : w3.frozen? ⟨w.heap.size + 1, 0, none⟩ = false := HZ3.out.frozen 0
        have f1 : w3.cell? ⟨w.heap.size + 1, 1, none⟩ = some (.slice none 0 0) := HZ3.out.cell 1
        have r1 : w3.frozen? ⟨w.heap.size + 1, 1, none⟩ = false := HZ3.out.frozen 1
        have f2 : w3.cell? ⟨w.heap.size + 1, 2, none⟩ = some (.slice none 0 0) := HZ3.out.cell 2
        have r2 : w3.frozen? ⟨w.heap.size + 1, 2, none⟩ = false := HZ3.out.frozen 2
        have f3 : w3.cell? ⟨w.heap.size + 1, 3, none⟩ = some (.slice none 0 0) := HZ3.out.cell 3
        have r3 : w3.frozen? ⟨w.heap.size + 1, 3, none⟩ = false := HZ3.out.frozen 3
        have f4 : w3.cell? ⟨w.heap.size + 1, 4, none⟩ = some (.slice none 0 0) := HZ3.out.cell 4
        have r4 : w3.frozen? ⟨w.heap.size + 1, 4, none⟩ = false := HZ3.out.frozen 4
        have f5 : w3.cell? ⟨w.heap.size + 1, 5, none⟩ = some (.slice none 0 0) := HZ3.out.cell 5
        have r5 : w3.frozen? ⟨w.heap.size + 1, 5, none⟩ = false := HZ3.out.frozen 5
        have f6 : w3.cell? ⟨w.heap.size + 1, 6, none⟩ = some (.slice none 0 0) := HZ3.out.cell 6
        have r6 : w3.frozen? ⟨w.heap.size + 1, 6, none⟩ = false := HZ3.out.frozen 6
        have f7 : w3.cell? ⟨w.heap.size + 1, 7, none⟩ = some (.slice none 0 0) := HZ3.out.cell 7
        have r7 : w3.frozen? ⟨w.heap.size + 1, 7, none⟩ = false := HZ3.out.frozen 7
        have f8 : w3.cell? ⟨w.heap.size + 1, 8, none⟩ = some (.slice none 0 0) := HZ3.out.cell 8
        have r8 : w3.frozen? ⟨w.heap.size + 1, 8, none⟩ = false := HZ3.out.frozen 8
        go_wp2_with (go_at_call 30; refine SH2.out.mono ?_; rintro e w' ⟨rfl, rfl⟩)
        clear f0 r0 f1 r1 f2 r2 f3 r3 f4 r4 f5 r5 f6 r6 f7 r7 f8 r8
        exact bodyPost_ret (results_cell_slot (by rfl) _ _ (fill_box HZ3.out _ _ _ _ _ _ _ _ _) Tryz.underlying31 rfl (by kernel_rfl) rfl) rfl ⟨zeroS, zeroLed, [], y2, rfl, HR.out, zero_own _ _, fill_low HL3.out (by omega) _ _ _ _ _ _ _ _ _⟩
      subst hy
      have HR := Lib.hid (HOk.out y1 (by simpa using HQ2.out))
      clear HAdd HOk HQ2
      go_upto_region 18 with (go_at_call 30; refine SH2.out.mono ?_; rintro e w' ⟨rfl, rfl⟩)
      have hgb2 : g' ≠ g14 ∧ g' ≠ w.heap.size + 1 := own_not HO3.out htu'.out HE2.out HB3.out HZ3.out
      have O4 := HPP3.out y1
      have B4 := HB3.out.far (p := ⟨g', c, none⟩) (fun e => hgb2.1 e.symm) (.int .i64 y1)
      have Z4 := HZ3.out.far (p := ⟨g', c, none⟩) (fun e => hgb2.2 e.symm) (.int .i64 y1)
      have L4 := HL3.out.setCell (p := ⟨g', c, none⟩) hg3'.out (.int .i64 y1)
      clear k42 k52 kc2 kf2 HO3 HB3 HZ3 HL3 HPP3 SH2
      generalize w3.setCell ⟨g', c, none⟩ (.int .i64 y1) = w4 at *
      have HO4 := Lib.hid O4
      have HB4 := Lib.hid B4
      have HZ4 := Lib.hid Z4
      have HL4 := Lib.hid L4
      clear O4 B4 Z4 L4
      have e0 : w4.cell? ⟨g14, 0, none⟩ = some (.int .i64 l.day) := HB4.out.cell 0
      have e1 : w4.cell? ⟨g14, 1, none⟩ = some (.slice s'.a1 l.curs.length s'.c1) := HB4.out.cell 1
      have e2 : w4.cell? ⟨g14, 2, none⟩ = some (.slice s'.a2 l.unders.length s'.c2) := HB4.out.cell 2
      have e3 : w4.cell? ⟨g14, 3, none⟩ = some (.slice s'.a3 l.instrs.length s'.c3) := HB4.out.cell 3
      have e4 : w4.cell? ⟨g14, 4, none⟩ = some (.slice s'.a4 l.accts.length s'.c4) := HB4.out.cell 4
      have e5 : w4.cell? ⟨g14, 5, none⟩ = some (.slice s'.a5 l.poss.length s'.c5) := HB4.out.cell 5
      have e6 : w4.cell? ⟨g14, 6, none⟩ = some (.slice s'.a6 l.orders.length s'.c6) := HB4.out.cell 6
      have e7 : w4.cell? ⟨g14, 7, none⟩ = some (.slice s'.a7 l.avail.length s'.c7) := HB4.out.cell 7
      have e8 : w4.cell? ⟨g14, 8, none⟩ = some (.slice s'.a8 l.locs.length s'.c8) := HB4.out.cell 8
      have f0 : w4.cell? ⟨w.heap.size + 1, 0, none⟩ = some (.int .i64 0) := HZ4.out.cell 0
      have r0 : w4.frozen? ⟨w.heap.size + 1, 0, none⟩ = false := HZ4.out.frozen 0
      have f1 : w4.cell? ⟨w.heap.size + 1, 1, none⟩ = some (.slice none 0 0) := HZ4.out.cell 1
      have r1 : w4.frozen? ⟨w.heap.size + 1, 1, none⟩ = false := HZ4.out.frozen 1
      have f2 : w4.cell? ⟨w.heap.size + 1, 2, none⟩ = some (.slice none 0 0) := HZ4.out.cell 2
      have r2 : w4.frozen? ⟨w.heap.size + 1, 2, none⟩ = false := HZ4.out.frozen 2
      have f3 : w4.cell? ⟨w.heap.size + 1, 3, none⟩ = some (.slice none 0 0) := HZ4.out.cell 3
      have r3 : w4.frozen? ⟨w.heap.size + 1, 3, none⟩ = false := HZ4.out.frozen 3
      have f4 : w4.cell? ⟨w.heap.size + 1, 4, none⟩ = some (.slice none 0 0) := HZ4.out.cell 4
      have r4 : w4.frozen? ⟨w.heap.size + 1, 4, none⟩ = false := HZ4.out.frozen 4
      have f5 : w4.cell? ⟨w.heap.size + 1, 5, none⟩ = some (.slice none 0 0) := HZ4.out.cell 5
      have r5 : w4.frozen? ⟨w.heap.size + 1, 5, none⟩ = false := HZ4.out.frozen 5
      have f6 : w4.cell? ⟨w.heap.size + 1, 6, none⟩ = some (.slice none 0 0) := HZ4.out.cell 6
      have r6 : w4.frozen? ⟨w.heap.size + 1, 6, none⟩ = false := HZ4.out.frozen 6
      have f7 : w4.cell? ⟨w.heap.size + 1, 7, none⟩ = some (.slice none 0 0) := HZ4.out.cell 7
      have r7 : w4.frozen? ⟨w.heap.size + 1, 7, none⟩ = false := HZ4.out.frozen 7
      have f8 : w4.cell? ⟨w.heap.size + 1, 8, none⟩ = some (.slice none 0 0) := HZ4.out.cell 8
      have r8 : w4.frozen? ⟨w.heap.size + 1, 8, none⟩ = false := HZ4.out.frozen 8
      go_wp2_with fail
      clear f0 r0 f1 r1 f2 r2 f3 r3 f4 r4 f5 r5 f6 r6 f7 r7 f8 r8
      clear e0 e1 e2 e3 e4 e5 e6 e7 e8
      refine bodyPost_ret (results_cell_slot (by rfl) _ _ (fill_box HZ4.out _ _ _ _ _ _ _ _ _) Tryz.underlying31 rfl (by kernel_rfl) rfl) rfl ⟨s', _, _, 0, ?_, HR.out, fill_own HO4.out HZ4.out _ _ _ _ _ _ _ _ _, fill_low HL4.out (by omega) _ _ _ _ _ _ _ _ _⟩
      rw [setCash_len, setCash_len]
      rfl
end Go.Proofs.YtmimhimlgbklpaaGreatDoor.LedW
namespace Go.Proofs.YtmimhimlgbklpaaGreatDoor.LedW
open Go.RowKit Go.Proofs.YtmimhimlgbklpaaGreatDoor.Bas Go.Proofs.YtmimhimlgbklpaaGreatDoor.LedM Go.Proofs.YtmimhimlgbklpaaGreatDoor.FixpM

theorem totalF_bad {cur : Int} {all : Int} {xs : List Acc} {k : Nat} (hk : k < xs.length) (h : ¬ (0 ≤ cur ∧ cur < xs[k].cash.length)) : totalF cur all (xs.drop k) = (0, 30) := by
  rw [List.drop_eq_getElem_cons hk]
  unfold totalF
  rw [if_neg h]
theorem totalF_err {cur : Int} {all x e : Int} {xs : List Acc} {k : Nat} (hk : k < xs.length) (h : 0 ≤ cur ∧ cur < xs[k].cash.length) (hx : addF all (xs[k].cash.getD cur.toNat 0) = (x, e)) (he : e ≠ 0) : totalF cur all (xs.drop k) = (0, e) := by
  rw [List.drop_eq_getElem_cons hk]
  unfold totalF
  rw [if_pos h, hx]
  simp [he]
theorem totalF_next {cur : Int} {all x : Int} {xs : List Acc} {k : Nat} (hk : k < xs.length) (h : 0 ≤ cur ∧ cur < xs[k].cash.length) (hx : addF all (xs[k].cash.getD cur.toNat 0) = (x, 0)) : totalF cur all (xs.drop k) = totalF cur x (xs.drop (k + 1)) := by
  rw [List.drop_eq_getElem_cons hk]
  conv => lhs; unfold totalF
  rw [if_pos h, hx]
  simp
theorem totalF_end {cur : Int} {all : Int} {xs : List Acc} {k : Nat} (hk : k = xs.length) : totalF cur all (xs.drop k) = (all, 0) := by
  rw [hk, List.drop_length]
  rfl
theorem ret_two {a b : Int} {p : Int × Int} (h : p = (a, b)) : Ending.returned (.tuple #[.int .i64 a, .int .i64 b]) = .returned (.tuple #[.int .i64 p.1, .int .i64 p.2]) := by rw [h]
end Go.Proofs.YtmimhimlgbklpaaGreatDoor.LedW
namespace Go.Proofs.YtmimhimlgbklpaaGreatDoor.LedW
open Go.ChangeShapes Go.WideShapes Go.ChangeAt Go.RowKit Go.Proofs.YtmimhimlgbklpaaGreatDoor.Bas Go.Proofs.YtmimhimlgbklpaaGreatDoor.LedM

/-- no list is longer than memory -/
def LedBig (l : Led) : Prop := l.curs.length ≤ 140737488351232 ∧ l.unders.length ≤ 140737488351232 ∧ l.instrs.length ≤ 140737488351232 ∧ l.accts.length ≤ 140737488351232 ∧ l.poss.length ≤ 140737488351232 ∧ l.orders.length ≤ 140737488351232 ∧ l.avail.length ≤ 140737488351232 ∧ l.locs.length ≤ 140737488351232
theorem bytes2_1 : Tryz.prog.bytesOf 49 = 16 := by kernel_rfl
theorem bytes2_2 : Tryz.prog.bytesOf 52 = 40 := by kernel_rfl
theorem bytes2_3 : Tryz.prog.bytesOf 55 = 56 := by kernel_rfl
theorem bytes2_4 : Tryz.prog.bytesOf 39 = 48 := by kernel_rfl
theorem bytes2_5 : Tryz.prog.bytesOf 74 = 24 := by kernel_rfl
theorem bytes2_6 : Tryz.prog.bytesOf 46 = 40 := by kernel_rfl
theorem bytes2_7 : Tryz.prog.bytesOf 3 = 8 := by kernel_rfl
theorem bytes2_8 : Tryz.prog.bytesOf 82 = 24 := by kernel_rfl
section
variable {H : Type} {enc : TypeId × Value → H} {W : World}
set_option maxRecDepth 100000 in
set_option maxHeartbeats 1000000 in
theorem open_ledger2 {base : Nat} {v : Value} {d : DataW H} {p : List MemPlace} (hv : Value.okWide Tryz.prog W .any base 31 v) (h : DataW.Trod enc Tryz.prog W 0 (fun _ => true) true 31 v d p) (hw : ∀ x ∈ d.weights Tryz.prog 31, x ≤ reachBytes) :
    ∃ (s : Lists) (l : Led) (vs : List (Value × Acc)), v = ledV s l ∧ LedAt W s l vs ∧ LedOk W l vs s ∧ LedBig l := by
  obtain ⟨L, ds, rfl, hL, hy, _, hg⟩ := open_fields Tryz.underlying31 hv h
  rw [cellsOf_led] at hL
  rw [hy] at hw
  match L, hL with
  | [r0, r1, r2, r3, r4, r5, r6, r7, r8], _ =>
    obtain ⟨x0, y0, m0, e0, d0, t0⟩ := hg 0 _ rfl cells64
    obtain ⟨z0, rfl, w0⟩ := int_of t0
    obtain ⟨x1, y1, m1, e1, d1, t1⟩ := hg 1 _ rfl cellsL_curs
    obtain ⟨a1, l1, c1, f1, at1, n1, p1, k1, g1⟩ := open_recs Tryz.underlying22 t1 (reach_field (i := 1) Tryz.underlying31 hw rfl d1) each_cur
    obtain rfl : x1 = .slice a1 l1.length c1 := by simpa using f1
    obtain ⟨x2, y2, m2, e2, d2, t2⟩ := hg 2 _ rfl cellsL_unders
    obtain ⟨a2, l2, c2, f2, at2, n2, p2, k2, g2⟩ := open_recs Tryz.underlying23 t2 (reach_field (i := 2) Tryz.underlying31 hw rfl d2) each_und
    obtain rfl : x2 = .slice a2 l2.length c2 := by simpa using f2
    obtain ⟨x3, y3, m3, e3, d3, t3⟩ := hg 3 _ rfl cellsL_instrs
    obtain ⟨a3, l3, c3, f3, at3, n3, p3, k3, g3⟩ := open_recs Tryz.underlying24 t3 (reach_field (i := 3) Tryz.underlying31 hw rfl d3) each_ins
    obtain rfl : x3 = .slice a3 l3.length c3 := by simpa using f3
    obtain ⟨x4, y4, m4, e4, d4, t4⟩ := hg 4 _ rfl cellsL_accts
    obtain ⟨a4, l4, c4, f4, at4, n4, p4, k4, g4⟩ := open_recs Tryz.underlying25 t4 (reach_field (i := 4) Tryz.underlying31 hw rfl d4) each_acc
    obtain rfl : x4 = .slice a4 l4.length c4 := by simpa using f4
    obtain ⟨x5, y5, m5, e5, d5, t5⟩ := hg 5 _ rfl cellsL_poss
    obtain ⟨a5, l5, c5, f5, at5, n5, p5, k5, g5⟩ := open_recs Tryz.underlying26 t5 (reach_field (i := 5) Tryz.underlying31 hw rfl d5) each_pos
    obtain rfl : x5 = .slice a5 l5.length c5 := by simpa using f5
    obtain ⟨x6, y6, m6, e6, d6, t6⟩ := hg 6 _ rfl cellsL_orders
    obtain ⟨a6, l6, c6, f6, at6, n6, p6, k6, g6⟩ := open_recs Tryz.underlying27 t6 (reach_field (i := 6) Tryz.underlying31 hw rfl d6) each_ord
    obtain rfl : x6 = .slice a6 l6.length c6 := by simpa using f6
    obtain ⟨x7, y7, m7, e7, d7, t7⟩ := hg 7 _ rfl cellsL
    obtain ⟨a7, l7, c7, f7, at7, n7, p7, k7, g7⟩ := open_recs Tryz.underlying28 t7 (reach_field (i := 7) Tryz.underlying31 hw rfl d7) each_int
    obtain rfl : x7 = .slice a7 l7.length c7 := by simpa using f7
    obtain ⟨x8, y8, m8, e8, d8, t8⟩ := hg 8 _ rfl cellsL_locs
    obtain ⟨a8, l8, c8, f8, at8, n8, p8, k8, g8⟩ := open_recs Tryz.underlying29 t8 (reach_field (i := 8) Tryz.underlying31 hw rfl d8) each_loc
    obtain rfl : x8 = .slice a8 l8.length c8 := by simpa using f8
    rw [flat_i64] at at7
    simp at e0 e1 e2 e3 e4 e5 e6 e7 e8
    subst e0 e1 e2 e3 e4 e5 e6 e7 e8
    rw [bytes2_1] at g1
    rw [bytes2_2] at g2
    rw [bytes2_3] at g3
    rw [bytes2_4] at g4
    rw [bytes2_5] at g5
    rw [bytes2_6] at g6
    rw [bytes2_7] at g7
    rw [bytes2_8] at g8
    have h4 : (l4.map (·.2)).length = l4.length := List.length_map _
    refine ⟨⟨a1, c1, a2, c2, a3, c3, a4, c4, a5, c5, a6, c6, a7, c7, a8, c8⟩, ⟨z0, l1, l2, l3, l4.map (·.2), l5, l6, l7, l8⟩, l4, ?_, ⟨at1, at2, at3, at4, rfl, fun x hx => (k4 x hx).1, at5, at6, at7, at8, ⟨n1, n2, n3, by rw [h4]; exact n4, n5, n6, n7, n8⟩⟩, ⟨w0, k1, k2, k3, k4, k5, k6, k7, k8, ⟨n1, n2, n3, by rw [h4]; exact n4, n5, n6, n7, n8⟩, ⟨p1, p2, p3, p4, p5, p6, p7, p8⟩⟩, by refine ⟨?_, ?_, ?_, ?_, ?_, ?_, ?_, ?_⟩ <;> simp only [h4] <;> omega⟩
    unfold ledV
    rw [h4]
end
end Go.Proofs.YtmimhimlgbklpaaGreatDoor.LedW
namespace Go.Proofs.YtmimhimlgbklpaaGreatDoor.LedW
open Go.RowKit Go.Proofs.YtmimhimlgbklpaaGreatDoor.Bas Go.Proofs.YtmimhimlgbklpaaGreatDoor.LedM

def accN (a : Acc) : Nat := 1 + a.cash.length
def headN (l : Led) : Nat := l.curs.length + l.unders.length + l.instrs.length + l.poss.length + l.orders.length + l.avail.length + l.locs.length
def sumN (xs : List Acc) : Nat := (xs.map accN).sum
def wideF (l : Led) : Bool := decide (4096 < headN l + sumN l.accts)
theorem sumN_next {xs : List Acc} {k : Nat} (hk : k < xs.length) : sumN (xs.take (k + 1)) = sumN (xs.take k) + accN xs[k] := by
  unfold sumN
  rw [List.take_succ_eq_append_getElem hk, List.map_append, List.sum_append]
  simp
theorem sumN_le (xs : List Acc) (k : Nat) : sumN (xs.take k) ≤ sumN xs := by
  unfold sumN
  conv => rhs; rw [← List.take_append_drop k xs, List.map_append, List.sum_append]
  omega
theorem sumN_mem {xs : List Acc} {a : Acc} (h : a ∈ xs) : accN a ≤ sumN xs := by
  unfold sumN
  induction xs with
  | nil => cases h
  | cons x r ih =>
    simp only [List.map_cons, List.sum_cons]
    rcases List.mem_cons.1 h with rfl | h
    · omega
    · have := ih h; omega
theorem sumN_len (xs : List Acc) : xs.length ≤ sumN xs := by
  unfold sumN
  induction xs with
  | nil => simp
  | cons x r ih =>
    simp only [List.map_cons, List.sum_cons, List.length_cons]
    have : 1 ≤ accN x := by unfold accN; omega
    omega
/-- a ledger that can be handed in and isn't wide -/
theorem fit_of {W : World} {s : Lists} {l : Led} {vs : List (Value × Acc)} (h : LedOk W l vs s) (ha : LedAt W s l vs) (hw : wideF l = false) : LedFit l := by
  have hn : headN l + sumN l.accts ≤ 4096 := by
    unfold wideF at hw
    have := of_decide_eq_false hw
    omega
  have h1 := sumN_len l.accts
  unfold headN at hn
  refine ⟨by omega, h.day, h.curs, h.unders, h.instrs, fun x hx => ?_, h.poss, h.orders, h.avail, h.locs⟩
  rw [← ha.each] at hx
  obtain ⟨y, hy, rfl⟩ := List.mem_map.1 hx
  obtain ⟨_, i1, i2, i3, i4⟩ := h.accts y hy
  exact ⟨i1, i2, i3, i4⟩
theorem cash_big {W : World} {s : Lists} {l : Led} {vs : List (Value × Acc)} (h : LedOk W l vs s) (ha : LedAt W s l vs) : ∀ x ∈ l.accts, x.cash.length ≤ 140737488351232 := fun x hx => by
  rw [← ha.each] at hx
  obtain ⟨y, hy, rfl⟩ := List.mem_map.1 hx
  have := (h.accts y hy).2.2.2.2
  omega
set_option maxHeartbeats 1000000 in
set_option maxRecDepth 100000 in
theorem wide_calls (s : Lists) (l : Led) (vs : List (Value × Acc)) (w : World) (hat : LedAt w s l vs) (hb : LedBig l) (hc : ∀ x ∈ l.accts, x.cash.length ≤ 140737488351232) :
    Calls Tryz.prog 7 #[ledV s l] w fun e w' => e = .returned (.bool (wideF l)) ∧ Below w.heap.size w w' := by
  unfold ledV
  have X := ledH_new w s l vs hat
  obtain ⟨l1, l2, l3, l4, l5, l6, l7, l8⟩ := hb
  have HC := Lib.hid hc
  have HLen := Lib.hid (LedAt.len hat)
  have HEach := Lib.hid (fun (k : Nat) (h1 : k < vs.length) (h2 : k < l.accts.length) => LedAt.acc hat h1 h2)
  have HW : Hid (wideF l = decide (4096 < headN l + sumN l.accts)) := rfl
  clear hat hc
  generalize wideF l = q at HW ⊢
  go_enter Tryz.func7, Tryz.ntmps7
  go_upto_region 1 with fail
  generalize w.alloc (.cells #[.int .i64 l.day, .slice s.a1 l.curs.length s.c1, .slice s.a2 l.unders.length s.c2, .slice s.a3 l.instrs.length s.c3, .slice s.a4 l.accts.length s.c4, .slice s.a5 l.poss.length s.c5, .slice s.a6 l.orders.length s.c6, .slice s.a7 l.avail.length s.c7, .slice s.a8 l.locs.length s.c8] 31) = w0 at X ⊢
  have c1 := X.c1
  have c2 := X.c2
  have c3 := X.c3
  have c4 := X.c4
  have c5 := X.c5
  have c6 := X.c6
  have c7 := X.c7
  have c8 := X.c8
  have XH := Lib.hid X
  clear X
  go_wp2_with fail
  clear c1 c2 c3 c4 c5 c6 c7 c8
  go_loopw [3, 36] (fun o i wr => ∃ (k N : Nat), k ≤ l.accts.length ∧ i = .int .i64 (k : Int) ∧ o = .int .i64 (N : Int) ∧ N ≤ 985162418458624 ∧ LedH w wr w.heap.size s l vs ∧ Hid (N = headN l + sumN (l.accts.take k))) (fun _ i _ => l.accts.length - (intOf i).toNat)
  case atStart => exact ⟨0, l.curs.length + l.unders.length + l.instrs.length + l.poss.length + l.orders.length + l.avail.length + l.locs.length, by omega, rfl, by go_num, by omega, XH.out, by unfold Hid headN sumN; simp⟩
  case round =>
    clear XH
    obtain ⟨k, N, hk, rfl, rfl, hN, X, H⟩ := hrel
    by_cases hlt : k < l.accts.length
    · have hlv : k < vs.length := by have := HLen.out; omega
      obtain ⟨b, off, ha, C1⟩ := rec_at len_acc (by decide) X.at_.accts hlv
      have hcash := X.at_.cash _ (List.getElem_mem hlv)
      have hfa := HC.out _ (List.getElem_mem hlt)
      have HNext := Lib.hid (sumN_next hlt)
      have HLe := Lib.hid (sumN_le l.accts (k + 1))
      have hke := HEach.out k hlv hlt
      generalize l.accts[k] = a at *
      generalize vs[k] = x at *
      obtain ⟨xv, xa⟩ := x
      simp only at hke
      subst hke
      obtain ⟨x0, x1, x2, x3⟩ := xa
      obtain ⟨ca, cc, hxv, hcc, hcat⟩ := hcash
      simp only at hxv hcc hcat hfa
      subst hxv
      have c0 := C1 0 _ rfl
      have c1 := C1 1 _ rfl
      have c2 := C1 2 _ rfl
      have c3 := C1 3 _ rfl
      clear C1 hcat
      simp only [← Nat.add_assoc, Nat.add_zero] at c0 c1 c2 c3
      have e4 := X.c4
      rw [ha] at e4 ⊢
      clear ha
      go_upto_region 5 with fail
      have XA := Box.new wr 39 #[.int .i64 x0, .slice ca x1.length cc, .bool x2, .int .i64 x3]
      have X3 := X.alloc (.cells #[.int .i64 x0, .slice ca x1.length cc, .bool x2, .int .i64 x3] 39)
      clear X c0 c1 c2 c3 e4
      generalize wr.alloc (.cells #[.int .i64 x0, .slice ca x1.length cc, .bool x2, .int .i64 x3] 39) = w3 at *
      have d1 : w3.cell? ⟨wr.heap.size, 1, none⟩ = some (.slice ca x1.length cc) := XA.cell 1
      have XH := Lib.hid X3
      clear XA X3
      have HS : Hid (N + (1 + x1.length) = headN l + sumN (l.accts.take (k + 1))) := by
        unfold Hid
        rw [HNext.out, H.out]
        show _ = _ + (_ + (1 + x1.length))
        omega
      clear H HNext
      by_cases hbig : 4096 < N + (1 + x1.length)
      · have HX : Hid (q = true) := by
          unfold Hid
          rw [HW.out, decide_eq_true_eq]
          have h1 := HS.out
          have h2 := HLe.out
          omega
        clear HS HLe HW
        go_wp2_with fail
        go_ret
        exact ⟨ret_bool HX.out.symm, XH.out.low⟩
      · clear HLe
        go_wp2_with fail
        go_roundw
        case rel => exact ⟨k + 1, N + (1 + x1.length), by omega, by go_num, by go_num, by omega, XH.out, HS⟩
        case measure => simp [intOf]; omega
    · have HX : Hid (q = decide (4096 < N)) := by
        unfold Hid
        have h1 := H.out
        rw [List.take_of_length_le (by omega)] at h1
        rw [HW.out, h1]
      clear H HW
      by_cases hbig : 4096 < N
      · go_wp2_with fail
        go_ret
        exact ⟨ret_bool (by rw [HX.out]; exact decide_eq_decide.2 (by omega)), X.low⟩
      · go_wp2_with fail
        go_ret
        exact ⟨ret_bool (by rw [HX.out]; exact decide_eq_decide.2 (by omega)), X.low⟩
end Go.Proofs.YtmimhimlgbklpaaGreatDoor.LedW
