/- Small general lemmas: readings of slices, how they stay, and the last step of a law's row. No program in sight. -/
import Derived.WalkKit
import Derived.ProofKit
import Derived.OpenShut
import Derived.ChangeOld
import Derived.Carry
import Derived.Below
import Derived.JoinedCond
import Derived.Deep.DeepHandedRow
import Derived.Deep.Slices
import Derived.Lib.LaidTab
import Derived.Lib.Hide
namespace Go.Proofs.YtddhcemdkhhikaaDoor.Bas
open Go.ChangeShapes Go.WideShapes Go.ChangeAt Go.RowKit

/-- the cells from an address on are these (nothing is said where there are none) -/
def At (w : World) (a : Option Addr) (cs : List Value) : Prop :=
  ∀ j u, cs[j]? = some u → ∃ b off, a = some ⟨b, off, none⟩ ∧ w.cell? ⟨b, off + j, none⟩ = some u

theorem At.nil (w : World) (a : Option Addr) : At w a [] := fun j u h => by simp at h

theorem At.below {w w' : World} {a : Option Addr} {cs : List Value} {B : Nat} (h : At w a cs) (hb : Below B w w') (hlt : ∀ b off s, a = some ⟨b, off, s⟩ → cs ≠ [] → b < B) : At w' a cs := by
  intro j u hj
  obtain ⟨b, off, rfl, hc⟩ := h j u hj
  refine ⟨b, off, rfl, ?_⟩
  rw [hb.cell (hlt b off none rfl (by rintro rfl; simp at hj))]
  exact hc

theorem At.lt {w : World} {a : Option Addr} {cs : List Value} (h : At w a cs) : ∀ b off s, a = some ⟨b, off, s⟩ → cs ≠ [] → b < w.heap.size := by
  intro b off s ha hne
  cases cs with
  | nil => exact absurd rfl hne
  | cons c cs =>
    obtain ⟨b', off', ha', hc⟩ := h 0 c rfl
    rw [ha] at ha'
    cases ha'
    exact World.block_lt_of_cell? w _ hc

theorem At.keep {w w' : World} {a : Option Addr} {cs : List Value} (h : At w a cs) (hb : Below w.heap.size w w') : At w' a cs := h.below hb h.lt

theorem At.take {w : World} {a : Option Addr} {cs : List Value} (h : At w a cs) (n : Nat) : At w a (cs.take n) := by
  intro j u hj
  rw [List.getElem?_take] at hj
  split at hj
  · exact h j u hj
  · cases hj

/-- the cells of a list of bytes, of ints -/
def u8s (l : List UInt8) : List Value := l.map fun x => .int .u8 (x.toNat : Int)
def i64s (l : List Int) : List Value := l.map (.int .i64)

theorem u8s_get (l : List UInt8) (j : Nat) (h : j < l.length) : (u8s l)[j]? = some (.int .u8 (l[j].toNat : Int)) := by simp [u8s, h]
theorem i64s_get (l : List Int) (j : Nat) (h : j < l.length) : (i64s l)[j]? = some (.int .i64 l[j]) := by simp [i64s, h]
theorem u8s_len (l : List UInt8) : (u8s l).length = l.length := by simp [u8s]
theorem i64s_len (l : List Int) : (i64s l).length = l.length := by simp [i64s]

/-- from what 'ownsRow' says to 'At' -/
theorem at_of_owns {w : World} {base : Nat} {e : TypeId} {size : Nat} {v : Value} {n : Nat} {xs : List Value} (h : w.ownsRow base e size v n xs) :
    ∃ a cap, v = .slice a n cap ∧ cap ≤ maxLen ∧ n ≤ cap ∧ At w a xs ∧ (∀ g, a = some g → base ≤ g.block ∧ g.off = 0 ∧ g.spot = none ∧ g.block < w.heap.size) ∧ (a = none → n = 0) := by
  have hlen := h.1
  have hc := fun g => World.ownsRow.cells h (g := g)
  rcases h.2 with ⟨rfl, rfl⟩ | ⟨g, cap, cur, rfl, hb, hg, hn, hm, _, _⟩
  · obtain rfl : xs = [] := List.eq_nil_of_length_eq_zero (by simpa using hlen)
    exact ⟨none, 0, rfl, by simp [maxLen], Nat.le_refl _, At.nil _ _, by simp, fun _ => rfl⟩
  · refine ⟨some ⟨g, 0, none⟩, cap, rfl, hm, hn, ?_, ?_, by simp⟩
    · intro j u hj
      have := hc g rfl j u hj
      refine ⟨g, 0, rfl, ?_⟩
      have hadd : (⟨g, 0, none⟩ : Addr).add j = ⟨g, 0 + j, none⟩ := by unfold Addr.add; split <;> simp_all
      rw [← hadd]; exact this
    · intro g' hg'
      cases hg'
      exact ⟨hb, rfl, rfl, (Array.getElem?_eq_some_iff.1 hg).1⟩

section
variable {H : Type} {enc : TypeId × Value → H} {P : Program}

theorem trodAll_below (hl : laidOutB P = true) {W W' : World} (hb : Below W.heap.size W W') :
    ∀ (ts : List TypeId) (vs : List Value) (ds : List (DataW H)) (ps : List MemPlace), (∀ t ∈ ts, P.readableRec t = true ∧ t < P.types.size) → (∀ x ∈ ps, x.block < W.heap.size) →
      DataW.TrodAll enc P W 0 (fun _ => true) true ts vs ds ps → DataW.TrodAll enc P W' 0 (fun b => decide (b < W.heap.size)) true ts vs ds ps
  | [], vs, ds, ps, _, _, h => by
    obtain ⟨rfl, rfl, rfl⟩ := trodAll_nil h
    exact trodAll_mk0
  | t :: ts, vs, ds, ps, hr, hlt, h => by
    obtain ⟨v, vs', d, ds', p, q, rfl, rfl, rfl, h1, h2⟩ := trodAll_cons h
    have ht := hr t List.mem_cons_self
    exact trodAll_cons_mk (Below.trod hl ht.1 ht.2 h1 hb (fun x hx => hlt x (List.mem_append_left _ hx)))
      (trodAll_below hl hb ts vs' ds' q (fun t ht => hr t (List.mem_cons_of_mem _ ht)) (fun x hx => hlt x (List.mem_append_right _ hx)) h2)

theorem trodAll_len {W : World} {b : Nat} {sp : Nat → Bool} {hd : Bool} : ∀ (ts : List TypeId) (vs : List Value) (ds : List (DataW H)) (ps : List MemPlace),
    DataW.TrodAll enc P W b sp hd ts vs ds ps → ds.length = ts.length
  | [], vs, ds, ps, h => by obtain ⟨rfl, rfl, rfl⟩ := trodAll_nil h; rfl
  | t :: ts, vs, ds, ps, h => by
    obtain ⟨v, vs', d, ds', p, q, rfl, rfl, rfl, h1, h2⟩ := trodAll_cons h
    simp [trodAll_len ts vs' ds' q h2]

/-- THE LAST STEP OF A LAW: it returns true, and nothing that was there has turned. -/
theorem law_post {fn : Func} {s : ChangeSpec} {f : FuncId} (hl : laidOutB P = true)
    (hread : (fn.params.toList.all fun t => P.readableRec t && decide (t < P.types.size)) = true) (tb : TypeId) (hres : fn.resultTypes = #[tb]) (hbool : P.underlying tb = some .bool)
    (hvars : s.vars = []) (hfn : ∀ (H : Type) (ds : List (DataW H)), ds.length = fn.params.toList.length → s.fn H ds = { results := [.lit (.bool true)], args := ds })
    {W : World} {args : Array Value} {ds gs : List (DataW H)} {before : List MemPlace}
    (hW : DataW.Whole enc P fn.params.toList s.vars false W args.toList ds gs before)
    (walk : Calls P f args W fun e W' => e = .returned (.bool true) ∧ Below W.heap.size W W') :
    Calls P f args W fun e W' => ∃ v, e = .returned v ∧ s.post enc P fn false true false false W args v W' := by
  refine walk.mono fun e W' ⟨he, hb⟩ => ?_
  subst he
  have hW' := hW
  obtain ⟨p, q, hA, hV, rfl, _, _⟩ := hW
  have hlt : ∀ x ∈ p ++ q, x.block < W.heap.size := fun x hx => hW'.lt x hx
  rw [hvars] at hV
  obtain ⟨rfl, rfl⟩ : gs = [] ∧ q = [] := by
    cases gs with
    | nil => exact ⟨rfl, hV⟩
    | cons g gs => exact hV.elim
  have hlen := trodAll_len _ _ _ _ hA
  have e := hfn H ds hlen
  have hA' := trodAll_below hl hb _ _ _ _ (fun t ht => by
    have := List.all_eq_true.1 hread t ht
    simpa using this) (fun x hx => hlt x (by simpa using hx)) hA
  refine ⟨_, rfl, ds, [], _, [], p, [], hW', ?_, ?_, ?_, hb.frame _, fun h => by cases h⟩
  · rw [List.append_nil, e, hres]
    exact trodAll_mk1 (shut_bool hbool _)
  · rw [List.append_nil, e]
    exact hA'
  · rw [hvars, List.append_nil, e]
    exact rfl

/-- an argument that is a slice of integers: its elements, their cells, its capacity, and the datum's lengths -/
theorem open_row {W : World} {k : IntKind} {t e : TypeId} {base : Nat} {v : Value} {d : DataW H} {p : List MemPlace} (ht : P.underlying t = some (.slice e)) (he : P.underlying e = some (.int k)) (hc : P.cellsOf e = 1)
    (hv : Value.okWide P W .any base t v) (h : DataW.Trod enc P W 0 (fun _ => true) true t v d p) :
    ∃ (a : Option Addr) (zs : List Int) (cap : Nat), v = .slice a zs.length cap ∧ At W a (zs.map (.int k)) ∧ (∀ z ∈ zs, (Lit.int k z).wf = true) ∧ zs.length ≤ cap ∧ cap ≤ maxLen ∧
      ((d = .nil ∧ cap = 0) ∨ ∃ es sp, d = .slice es sp ∧ es.length = zs.length ∧ es.length + sp.length = cap) := by
  obtain ⟨a, len, cap, rfl⟩ := okWide_slice ht hv
  obtain ⟨fuel, hf⟩ := h
  rcases open_ints ht he hc hf with ⟨hcs, hx⟩ | ⟨x, l, c, zs, hcs, _, hl, hm, hz, hx, hcell, hwz⟩
  · simp [Value.cells] at hcs
    obtain ⟨rfl, rfl, rfl⟩ := hcs
    simp only [Prod.mk.injEq] at hx
    exact ⟨none, [], 0, rfl, At.nil _ _, by simp, Nat.le_refl _, by simp [maxLen], .inl ⟨hx.1, rfl⟩⟩
  · simp [Value.cells] at hcs
    obtain ⟨rfl, rfl, rfl⟩ := hcs
    simp only [if_true] at hz
    simp only [Prod.mk.injEq] at hx
    have hlen : (zs.take len).length = len := by simp; omega
    refine ⟨some x, zs.take len, cap, by rw [hlen], ?_, fun z hz' => hwz z (List.mem_of_mem_take hz'), by omega, hm, .inr ⟨_, _, hx.1, ?_, ?_⟩⟩
    · intro j u hj
      rw [List.getElem?_map, List.getElem?_take] at hj
      split at hj
      · rename_i hjl
        have hjz : j < zs.length := by omega
        have hc0 := hcell j hjz
        rw [List.getElem?_eq_getElem hjz] at hj
        simp only [Option.map_some, Option.some.injEq] at hj
        subst hj
        have hspot : x.spot = none := by simpa [Addr.add] using World.cell?_spot (hcell 0 (by omega))
        obtain ⟨b, off, spot⟩ := x
        simp only at hspot
        subst hspot
        refine ⟨b, off, rfl, ?_⟩
        have hadd : (⟨b, off, none⟩ : Addr).add j = ⟨b, off + j, none⟩ := by unfold Addr.add; split <;> simp_all
        rw [← hadd, hc0]
        simp [List.getD, List.getElem?_eq_getElem hjz]
      · cases hj
    · simp [lits]
    · simp [lits]; omega

theorem u8_of_wf (zs : List Int) (h : ∀ z ∈ zs, (Lit.int .u8 z).wf = true) : ∃ l : List UInt8, l.length = zs.length ∧ zs.map (Value.int .u8) = u8s l := by
  refine ⟨zs.map fun z => UInt8.ofNat z.toNat, by simp, ?_⟩
  unfold u8s
  rw [List.map_map]
  refine List.map_congr_left fun z hz => ?_
  have hw := h z hz
  simp [Lit.wf, IntKind.min, IntKind.max, IntKind.signed, IntKind.bits] at hw
  have e : (UInt8.ofNat z.toNat).toNat = z.toNat % 2 ^ 8 := UInt8.toNat_ofNat'
  show Value.int .u8 z = Value.int .u8 ((UInt8.ofNat z.toNat).toNat : Int)
  rw [e]
  congr 1
  omega

/-- an argument that is a slice of bytes -/
theorem open_u8 {W : World} {t e : TypeId} {base : Nat} {v : Value} {d : DataW H} {p : List MemPlace} (ht : P.underlying t = some (.slice e)) (he : P.underlying e = some (.int .u8)) (hc : P.cellsOf e = 1)
    (hv : Value.okWide P W .any base t v) (h : DataW.Trod enc P W 0 (fun _ => true) true t v d p) :
    ∃ (a : Option Addr) (l : List UInt8) (cap : Nat), v = .slice a l.length cap ∧ At W a (u8s l) ∧ l.length ≤ cap ∧ cap ≤ maxLen ∧
      ((d = .nil ∧ cap = 0) ∨ ∃ es sp, d = .slice es sp ∧ es.length = l.length ∧ es.length + sp.length = cap) := by
  obtain ⟨a, zs, cap, rfl, hat, hw, h1, h2, h3⟩ := open_row ht he hc hv h
  obtain ⟨l, hl, e⟩ := u8_of_wf zs hw
  rw [e] at hat
  rw [← hl] at h1 h3 ⊢
  exact ⟨a, l, cap, rfl, hat, h1, h2, h3⟩

/-- the form's reach bounds a slice's capacity -/
theorem reach_slice {t e : TypeId} {n cap : Nat} {d : DataW H} (ht : P.underlying t = some (.slice e))
    (hd : (d = .nil ∧ cap = 0) ∨ ∃ es sp, d = .slice es sp ∧ es.length = n ∧ es.length + sp.length = cap) (hr : ∀ x ∈ d.weights P t, x ≤ reachBytes) : cap * P.bytesOf e ≤ 140737488351232 := by
  rcases hd with ⟨rfl, rfl⟩ | ⟨es, sp, rfl, _, rfl⟩
  · simp
  · have := hr ((es.length + sp.length) * P.bytesOf e) (by simp [DataW.weights, ht])
    exact Nat.le_trans this (by decide)
end
end Go.Proofs.YtddhcemdkhhikaaDoor.Bas
