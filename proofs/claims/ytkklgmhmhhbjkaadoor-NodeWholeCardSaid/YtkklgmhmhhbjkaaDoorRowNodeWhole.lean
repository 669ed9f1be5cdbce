/-
  PROVED: the card of the law NodeWhole: at every input that the row lets in, the call returns true and each argument reads afterwards as it read before. CONDITIONS: those of the given row and card, none besides. The frame is the guide's toy of a law over a listed table; printed by the own generator (wip/gen/rows.py).
-/
import Derived.Test.YtkklgmhmhhbjkaaDoorCards
import Derived.Test.YtkklgmhmhhbjkaaDoorTie
import Derived.Test.YtkklgmhmhhbjkaaDoorKitR
import Derived.Test.YtkklgmhmhhbjkaaDoorFnWhole
import Derived.Test.YtkklgmhmhhbjkaaDoorKitX
namespace Go.Proofs.YtkklgmhmhhbjkaaDoor.fnNodeWhole
open Go Go.Own Go.ChangeShapes Go.WideShapes Go.ChangeAt Go.RowKit
set_option maxRecDepth 100000
set_option linter.unusedVariables false

theorem own : ownKnob Tryd.prog.godebug = none := by kernel_rfl
theorem laidOut : laidOutB Tryd.prog = true := by kernel_rfl
theorem rd57 : Tryd.prog.readableRec 57 = true ∧ 57 < Tryd.prog.types.size := ⟨by kernel_rfl, of_decide_eq_true (by kernel_rfl)⟩
theorem cells5 : Tryd.prog.cellsOf 5 = 1 := by kernel_rfl
theorem cells57 : Tryd.prog.cellsOf 57 = 1 := by kernel_rfl
theorem bytesOf8 : Tryd.prog.bytesOf 5 = 1 := by kernel_rfl
theorem bytesOfE : Tryd.prog.bytesOf 65 = 48 := by kernel_rfl
theorem cells22 : Tryd.prog.cellsOf 22 = 1 := by kernel_rfl
theorem cells65 : Tryd.prog.cellsOf 65 = 2 := by kernel_rfl
theorem laidOf {W : World} (h : laidMetH Tryd.prog Rows.nodeWholeRow.laid W) : laidMet Tryd.prog [("witness/digest.rounds", Lib.tabData .u32 (KT.map fun (z : Nat) => (z : Int))), ("witness/digest.first", Lib.tabData .u32 [1779033703, 3144134277, 1013904242, 2773480762, 1359893119, 2600822924, 528734635, 1541459225]), ("witness/node.tags", Lib.tabData .u8 [17, 18, 19, 20, 23])] W := h
theorem gTab3 : Tryd.prog.globalNamed "witness/digest.rounds" = some 3 := by kernel_rfl
theorem gTabType3 : (Tryd.prog.globals[3]?).map (·.type) = some 105 := by kernel_rfl
theorem cellsTab3 : Tryd.prog.cellsOf 105 = 64 := by kernel_rfl
theorem cellsElt3 : Tryd.prog.cellsOf 73 = 1 := by kernel_rfl
theorem rounds {W : World} (h : laidMetH Tryd.prog Rows.nodeWholeRow.laid W) : RoundsAt 3 (hpOf W) :=
  roundsAt_of gTab3 (Lib.tabIs_of_head gTab3 gTabType3 Tryd.underlying105 Tryd.underlying73 cellsElt3 cellsTab3 (laidOf h))
theorem gTab1 : Tryd.prog.globalNamed "witness/digest.first" = some 1 := by kernel_rfl
theorem gTabType1 : (Tryd.prog.globals[1]?).map (·.type) = some 107 := by kernel_rfl
theorem cellsTab1 : Tryd.prog.cellsOf 107 = 8 := by kernel_rfl
theorem cellsElt1 : Tryd.prog.cellsOf 73 = 1 := by kernel_rfl
theorem first {W : World} (h : laidMetH Tryd.prog Rows.nodeWholeRow.laid W) : FirstAt 1 (hpOf W) :=
  firstAt_of gTab1 (Lib.tabIs_of_head gTab1 gTabType1 Tryd.underlying107 Tryd.underlying73 cellsElt1 cellsTab1 (laid_tail (laidOf h)))
theorem gTab0 : Tryd.prog.globalNamed "witness/node.tags" = some 0 := by kernel_rfl
theorem gTabType0 : (Tryd.prog.globals[0]?).map (·.type) = some 81 := by kernel_rfl
theorem cellsTab0 : Tryd.prog.cellsOf 81 = 5 := by kernel_rfl
theorem cellsElt0 : Tryd.prog.cellsOf 5 = 1 := by kernel_rfl
theorem tags {W : World} (h : laidMetH Tryd.prog Rows.nodeWholeRow.laid W) : TagsAt 0 (hpOf W) :=
  tagsAt_of gTab0 (Lib.tabIs_of_head gTab0 gTabType0 Tryd.underlying81 Tryd.underlying5 cellsElt0 cellsTab0 (laid_tail (laid_tail (laidOf h))))

theorem contract (H : Type) (enc : TypeId × Value → H) (W : World) (base : Nat) (args : Array Value) (ds gs : List (DataW H)) (before : List MemPlace)
    (hval : ∀ (j : Nat) t v, Tryd.f9.params[j]? = some t → args[j]? = some v → Value.okWide Tryd.prog W .any base t v)
    (hW : DataW.Whole enc Tryd.prog Tryd.f9.params.toList Rows.nodeWholeSpec.vars false W args.toList ds gs before)
    (hwt : (DataW.weightsEach Tryd.prog (Tryd.f9.params.toList ++ (OpenSpec.ofChange Rows.nodeWholeSpec).bare.plain.varTypes Tryd.prog) (ds ++ gs)).all (· ≤ reachBytes) = true)
    (hL : laidMetH Tryd.prog Rows.nodeWholeRow.laid W) :
    Calls Tryd.prog 9 args W fun e W' => ∃ v, e = .returned v ∧ Rows.nodeWholeSpec.post enc Tryd.prog Tryd.f9 false true false false W args v W' := by
  have hW' := hW
  obtain ⟨p, q, hA0, hV, rfl, hfz, hnd⟩ := hW
  have hA : DataW.TrodAll enc Tryd.prog W 0 (fun _ => true) true Tryd.f9.params.toList args.toList ds p := hA0
  rw [Tryd.params9] at hA hval
  obtain ⟨rfl, rfl⟩ := trodVars_none hV
  have hwt : (DataW.weightsEach Tryd.prog [57] ds).all (· ≤ reachBytes) = true := by
    have := hwt
    rw [Tryd.params9] at this
    simpa [show (OpenSpec.ofChange Rows.nodeWholeSpec).bare.plain.varTypes Tryd.prog = [] from rfl] using this
  obtain ⟨v0, vs0, d0, ds0, p0, q0, hargs0, rfl, rfl, h0, r0⟩ := trodAll_cons hA
  obtain ⟨rfl, rfl, rfl⟩ := trodAll_nil r0
  obtain rfl : args = #[v0] := by cases args; simp_all
  simp only [DataW.weightsEach, List.all_append, List.all_nil, Bool.and_eq_true, and_true] at hwt
  have hw0 := hwt
  obtain ⟨fu0, g0⟩ := h0
  have ok0 := hval 0 57 v0 rfl rfl
  obtain ⟨a0, n0, c0, rfl⟩ := okWide_slice Tryd.underlying57 ok0
  obtain ⟨es0, evs0, hes0, hz0⟩ := open_ents Tryd.underlying57 Tryd.underlying65 rfl Tryd.underlying22 Tryd.underlying5 cells5 bytesOf8 cells22 cells65 bytesOfE g0
  obtain ⟨hza0, hzb0⟩ := hz0 hw0
  refine (c_NodeWhole (Owns.start W) (rounds hL) (first hL) (tags hL) hes0 hza0).mono fun e W' ⟨he, hg⟩ => ?_
  subst he
  exact ⟨_, rfl, law_post laidOut (by rw [Tryd.params9]; simp only [List.mem_cons, List.not_mem_nil, or_false, forall_eq_or_imp, forall_eq]; exact rd57) rfl (by kernel_rfl) Tryd.underlying4 hW' hg.below ⟨rfl, rfl, rfl⟩⟩

def wargs : Array Value := #[.slice none 0 0]
noncomputable def laidWorld (os : Os) : World :=
  { World.holding Tryd.prog os ⟨#[], #[], []⟩ with heap := ((((World.holding Tryd.prog os ⟨#[], #[], []⟩).heap.modify 3 fun | .cells _ t frozen => .cells #[.int .u32 1116352408, .int .u32 1899447441, .int .u32 3049323471, .int .u32 3921009573, .int .u32 961987163, .int .u32 1508970993, .int .u32 2453635748, .int .u32 2870763221, .int .u32 3624381080, .int .u32 310598401, .int .u32 607225278, .int .u32 1426881987, .int .u32 1925078388, .int .u32 2162078206, .int .u32 2614888103, .int .u32 3248222580, .int .u32 3835390401, .int .u32 4022224774, .int .u32 264347078, .int .u32 604807628, .int .u32 770255983, .int .u32 1249150122, .int .u32 1555081692, .int .u32 1996064986, .int .u32 2554220882, .int .u32 2821834349, .int .u32 2952996808, .int .u32 3210313671, .int .u32 3336571891, .int .u32 3584528711, .int .u32 113926993, .int .u32 338241895, .int .u32 666307205, .int .u32 773529912, .int .u32 1294757372, .int .u32 1396182291, .int .u32 1695183700, .int .u32 1986661051, .int .u32 2177026350, .int .u32 2456956037, .int .u32 2730485921, .int .u32 2820302411, .int .u32 3259730800, .int .u32 3345764771, .int .u32 3516065817, .int .u32 3600352804, .int .u32 4094571909, .int .u32 275423344, .int .u32 430227734, .int .u32 506948616, .int .u32 659060556, .int .u32 883997877, .int .u32 958139571, .int .u32 1322822218, .int .u32 1537002063, .int .u32 1747873779, .int .u32 1955562222, .int .u32 2024104815, .int .u32 2227730452, .int .u32 2361852424, .int .u32 2428436474, .int .u32 2756734187, .int .u32 3204031479, .int .u32 3329325298] t frozen | o => o).modify 1 fun | .cells _ t frozen => .cells #[.int .u32 1779033703, .int .u32 3144134277, .int .u32 1013904242, .int .u32 2773480762, .int .u32 1359893119, .int .u32 2600822924, .int .u32 528734635, .int .u32 1541459225] t frozen | o => o).modify 0 fun | .cells _ t frozen => .cells #[.int .u8 17, .int .u8 18, .int .u8 19, .int .u8 20, .int .u8 23] t frozen | o => o) }
theorem laid_met (os : Os) : laidMet Tryd.prog Rows.nodeWholeRow.laid ((laidWorld os).forCall (fun _ _ => 0) ⟨#[], wargs, []⟩).memory :=
  laidMet_of_run' 8 (by kernel_rfl) (by kernel_rfl)
theorem reads (os : Os) {H : Type} (enc : TypeId × Value → H) : ∃ places, DataW.whole enc Tryd.prog ((laidWorld os).forCall (fun _ _ => 0) ⟨#[], wargs, []⟩).memory Tryd.f9.params.toList Rows.nodeWholeSpec.vars false (wargs : Array Value).toList 8 = some ([.nil], [], places) :=
  ⟨[], by kernel_rfl⟩

theorem lifted (os : Os) (started : os.Started) (H : Type) (enc : TypeId × Value → H) (F : Stop.Interp) :
    ReturnsInHanded Rows.nodeWholeRow.assume Tryd.checked os 9 .any ((OpenSpec.ofChange Rows.nodeWholeSpec).preRow enc Tryd.prog Tryd.f9 Rows.nodeWholeRow.domain false Rows.nodeWholeRow.laid) (((OpenSpec.ofChange Rows.nodeWholeSpec).at F).post enc Tryd.prog Tryd.f9 false true false false) := by
  obtain ⟨places, hx⟩ := reads os enc
  refine returnsInHanded_of_row (C := Tryd.checked) (s := OpenSpec.ofChange Rows.nodeWholeSpec) own started (by kernel_rfl) Tryd.func9
    (witness_row_at (enc := enc) (C := Tryd.checked) false (laidWorld os) wargs rfl (by kernel_rfl) (by kernel_rfl) (by kernel_rfl)
      (OpenSpec.preRow_of_cond 8 hx (by kernel_rfl) (fun k hk => by cases hk) (by kernel_rfl) (laid_met os))) ?_
  intro W base args ds gs before hval hW _ _ hwt hL _ _
  exact contract H enc W base args ds gs before hval hW hwt hL

theorem said : Rows.NodeWholeSaid :=
  OpenClaim.holds_of_cond 9 Tryd.f9 rfl rfl rfl rfl rfl rfl rfl ⟨rfl, rfl, rfl, rfl, rfl⟩ rfl rfl rfl rfl rfl (by kernel_rfl) Tryd.func9 (by kernel_rfl)
    (of_decide_eq_true (by kernel_rfl)) (by unfold Func.isWrapper; first | (rw [if_pos (by decide +kernel)]; kernel_rfl) | (rw [if_neg (by decide +kernel)]; exact ⟨rfl, rfl⟩))
    (fun os started H enc _ F => by rw [OpenClaim.pre_eq_preRow]; exact lifted os started H enc F)
theorem plain (f : FuncId) (fn : Func) (hf : Tryd.pinned.checked.prog.funcNamed "witness/witnesslaw7.NodeWhole" = some f) (hfn : Tryd.pinned.checked.prog.funcs[f]? = some fn) :
    false = Tryd.pinned.checked.prog.looks [] ∧ ∀ (j : Nat) t, fn.params[j]? = some t → Tryd.pinned.checked.prog.wantsStandIn t = false := by
  obtain rfl : f = 9 := Option.some.inj ((show Tryd.prog.funcNamed "witness/witnesslaw7.NodeWhole" = some 9 by kernel_rfl).symm.trans hf) |>.symm
  obtain rfl : fn = Tryd.f9 := (Option.some.inj (Tryd.func9.symm.trans hfn)).symm
  refine ⟨by kernel_rfl, fun j t ht => ?_⟩
  rw [Tryd.params9] at ht
  have hm : t ∈ ([57] : List TypeId) := by simpa using Array.mem_of_getElem? ht
  simp only [List.mem_cons, List.not_mem_nil, or_false] at hm
  subst hm
  · exact (show Tryd.prog.wantsStandIn 57 = false by kernel_rfl)
/-- THE CARD -/
theorem nodeWhole_card : Rows.NodeWholeCardSaid :=
  Claim7.holds_tied_plain_at .later [] _ _ _ _ said (fun _ h => by cases h) (by kernel_rfl) (fun _ h => by cases h) nodeWhole_row_tie rfl ⟨rfl, rfl⟩ (by kernel_rfl) rfl plain (by kernel_rfl)
end Go.Proofs.YtkklgmhmhhbjkaaDoor.fnNodeWhole
