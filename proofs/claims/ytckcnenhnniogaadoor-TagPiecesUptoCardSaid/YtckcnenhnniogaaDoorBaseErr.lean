/- A laid variable of type error holds nil or an error; a byte handed in; a byte stored in a row that bears a mark. No program in sight. -/
import Derived.Test.YtckcnenhnniogaaDoorBaseLaid
import Derived.Test.YtckcnenhnniogaaDoorBaseMark
set_option linter.unusedSimpArgs false
set_option linter.unusedVariables false
namespace Go.Proofs.YtckcnenhnniogaaDoor.Bas
open Go.ChangeShapes Go.WideShapes Go.ChangeAt Go.RowKit

theorem err_laid {P : Program} {W : World} {name : String} {d : DataW Unit} {rest : List (String × DataW Unit)} {g : Nat} {t : TypeId} {ms : Array (String × TypeId)}
    (hg : P.globalNamed name = some g) (hty : (P.globals[g]?).map (·.type) = some t) (ht : P.underlying t = some (.interface ms))
    (h : ∃ ps, DataW.LaidVars P W ((name, d) :: rest) ps) : ∃ ev, W.cell? ⟨g, 0, none⟩ = some ev ∧ (ev = .nilIface ∨ ∃ te pe, ev = .iface te pe) := by
  obtain ⟨ps, g', t', cs, fuel, p, q, hg', ht', hvar, hd, _, _⟩ := h
  obtain rfl := Option.some.inj (hg.symm.trans hg')
  obtain rfl := Option.some.inj (hty.symm.trans ht')
  have key : ∃ ev, cs.toList = [ev] ∧ (ev = .nilIface ∨ ∃ te pe, ev = .iface te pe) := by
    cases fuel with
    | zero => simp [DataW.trod] at hd
    | succ fuel =>
      unfold DataW.trod at hd
      rw [ht] at hd
      split at hd <;> simp_all
  obtain ⟨ev, hcs, he⟩ := key
  refine ⟨ev, ?_, he⟩
  unfold World.var? at hvar
  rw [hg] at hvar
  unfold World.cell?
  simp only [Option.bind_some] at hvar
  split at hvar
  · rename_i c2 _ _ hh
    injection hvar with hvar
    subst hvar
    simp only [hh]
    have : c2 = #[ev] := by rw [← Array.toList_inj]; exact hcs
    simp [this]
  · cases hvar
theorem open_byte {P : Program} {H : Type} {enc : TypeId × Value → H} {w : World} {base : Nat} {spare : Nat → Bool} {held : Bool} {r : Reach} {b0 : Nat} {t : TypeId} {v : Value} {d : DataW H} {ps : List MemPlace} (ht : P.underlying t = some (.int .u8)) (hval : Value.okWide P w r b0 t v) (hd : DataW.Trod enc P w base spare held t v d ps) :
    ∃ m : UInt8, v = .int .u8 (m.toNat : Int) := by
  obtain ⟨n, rfl, _, _, hw⟩ := open_int ht hval hd
  obtain ⟨l, hl, e⟩ := u8_of_wf [n] (by simpa using hw)
  match l, hl with
  | [x], _ =>
    simp [u8s] at e
    exact ⟨x, by rw [e]⟩
theorem ownsM.stored8 {w : World} {base : Nat} {e : TypeId} {g n cap : Nat} {l : List UInt8} (h : ownsM w base e (.slice (some ⟨g, 0, none⟩) n cap) l.length (u8s l)) {k : Nat} (hk : k < l.length) (x : UInt8) :
    w.cell? ⟨g, k, none⟩ = some (.int .u8 (l[k].toNat : Int)) ∧ w.frozen? ⟨g, k, none⟩ = false ∧ ownsM (w.setCell ⟨g, k, none⟩ (.int .u8 (x.toNat : Int))) base e (.slice (some ⟨g, 0, none⟩) n cap) (l.set k x).length (u8s (l.set k x)) := by
  rcases h.2 with ⟨hv, _⟩ | ⟨g', cap', cur, fz, hv, hb, hg, hfz, hn, hm, hs, ht⟩
  · cases hv
  cases hv
  have hi : k < cur.size := by omega
  refine ⟨?_, ?_, ?_⟩
  · obtain ⟨a, c, hv, _, _, hat⟩ := h.at_
    cases hv
    obtain ⟨b, off, e2, hc⟩ := hat k _ (u8s_get l k hk)
    cases e2
    simpa using hc
  · obtain ⟨lo, hi'⟩ := fz
    simp only at hfz
    simp only [World.frozen?, hg, Bool.and_eq_false_iff, decide_eq_false_iff_not]
    omega
  · rw [setCell_eq_setRow w g k cur e fz _ hg]
    refine ⟨by simp [u8s], .inr ⟨g, cap, _, fz, by rw [List.length_set], hb, setRow_heap w g cur _ e _ hg, by simpa using hfz, by rw [List.length_set]; exact hn, hm, by simpa using hs, ?_⟩⟩
    rw [Array.toList_setIfInBounds, List.length_set]
    rw [List.take_set, ht]
    unfold u8s
    rw [List.map_set]
end Go.Proofs.YtckcnenhnniogaaDoor.Bas
