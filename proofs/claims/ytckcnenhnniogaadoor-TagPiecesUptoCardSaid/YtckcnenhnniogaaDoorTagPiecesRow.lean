/- The row of TagPieces: the witness, the step, the statement. Written by a program of this repo (wip/mkrow.py). Condition: what comes in is of bulk at most 1048576. -/
import Derived.Test.YtckcnenhnniogaaDoorTagPieces
import Derived.Test.YtckcnenhnniogaaDoorCards
import Derived.Test.YtckcnenhnniogaaDoorTie
import Derived.SevenTiedAt
set_option linter.unusedSimpArgs false
set_option linter.unusedVariables false
namespace Go.Proofs.YtckcnenhnniogaaDoor.tagPieces
open Go.ChangeShapes Go.WideShapes Go.ChangeAt Go.RowKit Go.Proofs.YtckcnenhnniogaaDoor.Bas

theorem own : ownKnob Tryd.prog.godebug = none := by kernel_rfl
theorem laidOut : laidOutB Tryd.prog = true := by kernel_rfl

set_option maxRecDepth 100000 in
theorem contract (H : Type) (enc : TypeId × Value → H) (W : World) (base : Nat) (args : Array Value) (ds gs : List (DataW H)) (before : List MemPlace)
    (hval : ∀ (j : Nat) t v, Tryd.f3.params[j]? = some t → args[j]? = some v → Value.okWide Tryd.prog W .any base t v)
    (hW : DataW.Whole enc Tryd.prog Tryd.f3.params.toList Rows.tagPiecesSpec.vars false W args.toList ds gs before)
    (hr : (DataW.weightsEach Tryd.prog (Tryd.f3.params.toList ++ (Rows.OpenSpec.upto Rows.tagPiecesSpec).bare.plain.varTypes Tryd.prog) (ds ++ gs)).all (· ≤ reachBytes) = true)
    (hL : laidMetH Tryd.prog Rows.tagPiecesUptoRow.laid W) (hS : W.ShapedOpen Tryd.prog) (hk : Rows.uptoSmall H (ds ++ gs) = true) :
    Calls Tryd.prog 3 args W fun e W' => ∃ v, e = .returned v ∧ Rows.tagPiecesSpec.post enc Tryd.prog Tryd.f3 false true false false W args v W' := by
  refine law_post laidOut (by kernel_rfl) 4 rfl Tryd.underlying4 rfl (fun H ds h => match ds, h with | [_, _], _ => rfl) hW ?_
  obtain ⟨p, q, hA, hV, rfl, hfz, hnd⟩ := hW
  obtain ⟨rfl, rfl⟩ := trodVars_none hV
  rw [List.append_nil, List.all_eq_true] at hr
  exact opened H enc W base args ds p hval hA (fun x hx => by simpa using hr x (by rw [show Tryd.f3.params.toList ++ (Rows.OpenSpec.upto Rows.tagPiecesSpec).bare.plain.varTypes Tryd.prog = Tryd.f3.params.toList from List.append_nil _]; exact hx)) hL hS (by rw [List.append_nil] at hk; exact hk)

/-- so many blocks has the settled world -/
noncomputable def lowBlocks : Nat := (World.holding Tryd.prog default ⟨#[], #[], []⟩).heap.size

/-- a world for the witness -/
noncomputable def laidWorld (os : Os) : World :=
  { World.holding Tryd.prog os ⟨#[.cells #[.string ⟨#[118, 97, 108, 117, 101, 32, 111, 117, 116, 32, 111, 102, 32, 114, 97, 110, 103, 101]⟩] 134, .cells #[.string ⟨#[105, 110, 118, 97, 108, 105, 100, 32, 115, 121, 110, 116, 97, 120]⟩] 134, .cells #[.string ⟨#[98, 121, 116, 101, 115, 46, 66, 117, 102, 102, 101, 114, 58, 32, 116, 111, 111, 32, 108, 97, 114, 103, 101]⟩] 134], #[], []⟩ with heap := (((((((((World.holding Tryd.prog os ⟨#[.cells #[.string ⟨#[118, 97, 108, 117, 101, 32, 111, 117, 116, 32, 111, 102, 32, 114, 97, 110, 103, 101]⟩] 134, .cells #[.string ⟨#[105, 110, 118, 97, 108, 105, 100, 32, 115, 121, 110, 116, 97, 120]⟩] 134, .cells #[.string ⟨#[98, 121, 116, 101, 115, 46, 66, 117, 102, 102, 101, 114, 58, 32, 116, 111, 111, 32, 108, 97, 114, 103, 101]⟩] 134], #[], []⟩).heap.modify 7 (fun
      | .cells _ t frozen => .cells (TagW.datCells Rows.laid_math_bits_deBruijn32tab) t frozen
      | o => o)).modify 8 (fun
      | .cells _ t frozen => .cells (TagW.datCells Rows.laid_math_bits_deBruijn64tab) t frozen
      | o => o)).modify 2 (fun
      | .cells _ t frozen => .cells (TagW.datCells Rows.laid_internal_strconv_uint64pow10) t frozen
      | o => o)).modify 4 (fun
      | .cells _ t frozen => .cells (TagW.datCells Rows.laid_unicode_utf8_acceptRanges) t frozen
      | o => o)).modify 3 (fun
      | .cells _ t frozen => .cells (TagW.datCells Rows.laid_unicode_utf8_first) t frozen
      | o => o)).modify 6 (fun
      | .cells _ t frozen => .cells #[.iface 132 (.pointer (some ⟨lowBlocks + 0, 0, none⟩))] t frozen
      | o => o)).modify 5 (fun
      | .cells _ t frozen => .cells #[.iface 132 (.pointer (some ⟨lowBlocks + 1, 0, none⟩))] t frozen
      | o => o)).modify 0 (fun
      | .cells _ t frozen => .cells #[.iface 132 (.pointer (some ⟨lowBlocks + 2, 0, none⟩))] t frozen
      | o => o)) }
theorem laid_met (os : Os) : laidMet Tryd.prog Rows.tagPiecesUptoRow.laid ((laidWorld os).forCall (fun _ _ => 0) ⟨#[], #[.slice none 0 0, .slice none 0 0], []⟩).memory :=
  laidMet_of_run' 8 (by kernel_rfl) (by kernel_rfl)
theorem reads (os : Os) {H : Type} (enc : TypeId × Value → H) : ∃ places, DataW.whole enc Tryd.prog ((laidWorld os).forCall (fun _ _ => 0) ⟨#[], #[.slice none 0 0, .slice none 0 0], []⟩).memory Tryd.f3.params.toList Rows.tagPiecesSpec.vars false (#[.slice none 0 0, .slice none 0 0] : Array Value).toList 8 = some ([.nil, .nil], [], places) :=
  ⟨[], by kernel_rfl⟩

set_option maxRecDepth 100000 in
theorem lifted (os : Os) (started : os.Started) (H : Type) (enc : TypeId × Value → H) (F : Stop.Interp) :
    ReturnsInHanded {} Tryd.checked os 3 .any ((Rows.OpenSpec.upto Rows.tagPiecesSpec).preRow enc Tryd.prog Tryd.f3 Rows.tagPiecesUptoRow.domain false Rows.tagPiecesUptoRow.laid) (((Rows.OpenSpec.upto Rows.tagPiecesSpec).at F).post enc Tryd.prog Tryd.f3 false true false false) := by
  obtain ⟨places, hx⟩ := reads os enc
  refine returnsInHanded_of_row (C := Tryd.checked) (s := (Rows.OpenSpec.upto Rows.tagPiecesSpec)) own started (by kernel_rfl) Tryd.func3
    (witness_row_at (enc := enc) (C := Tryd.checked) false (laidWorld os) #[.slice none 0 0, .slice none 0 0] rfl (by kernel_rfl) (by kernel_rfl) (by kernel_rfl)
      (OpenSpec.preRow_of_cond 8 hx (by kernel_rfl) (fun k hk => by cases hk; kernel_rfl) (by kernel_rfl) (laid_met os))) ?_
  intro W base args ds gs before hval hW _ hc hr hL hS _
  exact contract H enc W base args ds gs before hval hW hr hL hS (hc _ rfl)

theorem said : Rows.TagPiecesUptoSaid :=
  OpenClaim.holds_of_cond 3 Tryd.f3 rfl rfl rfl rfl rfl rfl rfl ⟨rfl, rfl, rfl, rfl, rfl⟩ rfl rfl rfl rfl rfl (by kernel_rfl) Tryd.func3 (by kernel_rfl)
    (of_decide_eq_true (by kernel_rfl)) (by unfold Func.isWrapper; first | (rw [if_pos (by decide +kernel)]; kernel_rfl) | (rw [if_neg (by decide +kernel)]; exact ⟨rfl, rfl⟩))
    (fun os started H enc _ F => by rw [OpenClaim.pre_eq_preRow]; exact lifted os started H enc F)

theorem plain (f : FuncId) (fn : Func) (hf : Tryd.pinned.checked.prog.funcNamed "bulwark/bulwarklaw07.TagPieces" = some f) (hfn : Tryd.pinned.checked.prog.funcs[f]? = some fn) :
    true = Tryd.pinned.checked.prog.looks [] ∧ ∀ (j : Nat) t, fn.params[j]? = some t → Tryd.pinned.checked.prog.wantsStandIn t = false := by
  obtain rfl : f = 3 := Option.some.inj ((show Tryd.prog.funcNamed "bulwark/bulwarklaw07.TagPieces" = some 3 by kernel_rfl).symm.trans hf) |>.symm
  obtain rfl : fn = Tryd.f3 := (Option.some.inj (Tryd.func3.symm.trans hfn)).symm
  refine ⟨by kernel_rfl, fun j t ht => ?_⟩
  rw [Tryd.params3] at ht
  have hall : ∀ t ∈ #[22, 23], Tryd.prog.wantsStandIn t = false := by
    intro t h
    simp only [List.mem_toArray, List.mem_cons, List.not_mem_nil, or_false] at h
    rcases h with rfl | rfl
    all_goals kernel_rfl
  exact hall t (Array.mem_of_getElem? ht)

theorem card : Rows.TagPiecesUptoCardSaid :=
  Claim7.holds_tied_plain_at .later [] _ _ _ _ said (fun _ h => by cases h) (by kernel_rfl) (fun _ h => by cases h) tagPiecesUpto_row_tie rfl ⟨rfl, rfl⟩ (by kernel_rfl) rfl plain (by kernel_rfl)

end Go.Proofs.YtckcnenhnniogaaDoor.tagPieces
