/- The call of victuallerlaw14.ProofNone returns true. Conditions: the package-level variables that the row lists hold what the program lays (the card ties them); no other. -/
import Derived.Test.YtibgogaabdngjaaGreatDoorCards
import Derived.Test.YtibgogaabdngjaaGreatDoorTie
import Derived.WalkKit
import Derived.ProofKit
import Derived.OpenShut
import Derived.Deep.DeepHandedRow
import Derived.Deep.DeepWitnessRowRef
import Derived.LaidMore
import Derived.Lib.LaidTab
import Derived.MakeChecks
import Derived.Test.YtibgogaabdngjaaGreatDoorVQV
import Derived.Test.YtibgogaabdngjaaGreatDoorVQW
import Derived.Test.YtibgogaabdngjaaGreatDoorV04
import Derived.Test.YtibgogaabdngjaaGreatDoorVQY
set_option linter.unusedSimpArgs false
set_option linter.unusedVariables false
set_option maxRecDepth 100000
set_option maxHeartbeats 4000000
namespace Go.Proofs.YtibgogaabdngjaaGreatDoor.pn
open Go.ChangeShapes Go.WideShapes Go.ChangeAt Go.RowKit Go.Vk

theorem own : ownKnob Tryz.prog.godebug = none := by kernel_rfl
theorem gTab : Tryz.prog.globalNamed "internal/strconv.uint64pow10" = some 1 := by kernel_rfl
theorem gTabType : (Tryz.prog.globals[1]?).map (·.type) = some 396 := by kernel_rfl
theorem uTab : Tryz.prog.underlying 396 = some (.array 20 132) := by kernel_rfl
theorem uEl : Tryz.prog.underlying 132 = some (.int .u64) := by kernel_rfl
theorem cTab : Tryz.prog.cellsOf 396 = 20 := by kernel_rfl
theorem cEl : Tryz.prog.cellsOf 132 = 1 := by kernel_rfl
theorem uBool : Tryz.prog.underlying 4 = some .bool := by kernel_rfl
def powZ : List Int := (List.range 20).map fun i => ((10 ^ i : Nat) : Int)
theorem only : (Rows.proofNoneRow.laid.filter fun x => x.1 == "internal/strconv.uint64pow10") = [("internal/strconv.uint64pow10", Lib.tabData .u64 powZ)] := by kernel_rfl
theorem table {W : World} (h : laidMetH Tryz.prog Rows.proofNoneRow.laid W) : Lib.TabIs Tryz.prog W "internal/strconv.uint64pow10" .u64 powZ := by
  have h1 := h.filter (fun x => x.1 == "internal/strconv.uint64pow10")
  rw [only, MakeChecks.laidMetH_plain _ _ _ (by kernel_rfl)] at h1
  exact Lib.tabIs_of_head (rest := []) gTab gTabType uTab uEl cEl cTab h1
theorem pow_row : pow10L = powZ.map (AV.int .u64) := by simp [pow10L, powZ]
theorem start {W : World} (h : laidMetH Tryz.prog Rows.proofNoneRow.laid W) : Rel (c0 W) tab0 := by
  have := start1 (W := W) (g := 1) (k := .u64) (zs := powZ) (by omega) (by simp [powZ]) (fun i hi => (table h).cell gTab i hi)
  rw [← pow_row] at this
  exact this
theorem tab0_ro : ∀ b x, tab0.m.get b = some x → x.rw = false := by
  intro b x hb
  have hb : ((PT.leaf : PT Blk).set 1 (.row pow10L true)).get b = some x := hb
  rw [PT.get_set] at hb
  split at hb
  · injection hb with hb; subst hb; rfl
  · rw [PT.get_leaf] at hb; cases hb

/-- WHAT THE CALL GIVES, FOR EVERY WORLD THAT HOLDS THE TABLE. -/
theorem contract (H : Type) (enc : TypeId × Value → H) (W : World) (args : Array Value) (ds gs : List (DataW H)) (before : List MemPlace)
    (hW : DataW.Whole enc Tryz.prog Tryz.f3.params.toList Rows.proofNoneSpec.vars false W args.toList ds gs before) (hL : laidMetH Tryz.prog Rows.proofNoneRow.laid W) :
    Calls Tryz.prog 3 args W fun e W' => ∃ v, e = .returned v ∧ Rows.proofNoneSpec.post enc Tryz.prog Tryz.f3 false true false false W args v W' := by
  have hW' := hW
  obtain ⟨p, q, hA0, hV, rfl, hfz, hnd⟩ := hW
  have hA : DataW.TrodAll enc Tryz.prog W 0 (fun _ => true) true Tryz.f3.params.toList args.toList ds p := hA0
  rw [Tryz.params3] at hA
  obtain ⟨hargs, rfl, rfl⟩ := trodAll_nil hA
  obtain rfl : args = #[] := by cases args; simp_all
  obtain ⟨rfl, rfl⟩ := trodVars_none hV
  simp only [List.append_nil] at hW'
  obtain ⟨h1, hrun⟩ := proofNone_run
  refine (closed_calls prog_mixed hkQ_ok hkQ_dom hrun (start hL) tab0_ro).mono fun e W' ⟨x, c', he, hw, hv, hB⟩ => ?_
  subst he
  simp only [VR] at hv
  subst hv
  exact ⟨_, rfl, post_of_below (pa := []) (pv := []) hW' (fun _ _ _ => trodAll_cons_mk (shut_bool uBool _) trodAll_mk0) (fun _ _ => trodAll_mk0) (fun _ _ => rfl) rfl hB (ok_one (by kernel_rfl) rfl (okWide_bool_mk uBool _))⟩

def firstCells : List Value := match Go.Pinned.utf8First with
  | .agg ps => ps.map fun d => match d with
    | .lit (.int k n) => .int k n
    | _ => .bool false
  | _ => []
/-- A WORLD FOR THE WITNESS: what the program's own initialisers lay, and Go's table behind it. -/
noncomputable def laidWorld (os : Os) : World :=
  { World.doorLaid Tryz.prog 72 os with heap := (World.doorLaid Tryz.prog 72 os).heap.modify 4 fun
      | .cells _ t frozen => .cells (firstCells.toArray) t frozen
      | o => o }
theorem laid_met (os : Os) : laidMetH Tryz.prog Rows.proofNoneRow.laid ((laidWorld os).forCall (fun _ _ => 0) ⟨#[], #[], []⟩).memory := by
  rw [MakeChecks.laidMetH_plain _ _ _ (by kernel_rfl)]
  exact laidMet_of_run' 8 (by kernel_rfl) (by kernel_rfl)
theorem reads (os : Os) {H : Type} (enc : TypeId × Value → H) : ∃ places, DataW.whole enc Tryz.prog ((laidWorld os).forCall (fun _ _ => 0) ⟨#[], #[], []⟩).memory Tryz.f3.params.toList Rows.proofNoneSpec.vars false (#[] : Array Value).toList 8 = some ([], [], places) :=
  ⟨[], by kernel_rfl⟩

theorem lifted (os : Os) (started : os.Started) (H : Type) (enc : TypeId × Value → H) (F : Stop.Interp) :
    ReturnsInHanded {} Tryz.checked os 3 .any ((OpenSpec.ofChange Rows.proofNoneSpec).preRow enc Tryz.prog Tryz.f3 Rows.proofNoneRow.domain false Rows.proofNoneRow.laid) (((OpenSpec.ofChange Rows.proofNoneSpec).at F).post enc Tryz.prog Tryz.f3 false true false false) := by
  obtain ⟨places, hx⟩ := reads os enc
  refine returnsInHanded_of_row (C := Tryz.checked) (s := OpenSpec.ofChange Rows.proofNoneSpec) own started (by kernel_rfl) Tryz.func3
    (witness_row_atRef (enc := enc) (C := Tryz.checked) false (laidWorld os) #[] rfl (by kernel_rfl) (by kernel_rfl) (by kernel_rfl)
      (OpenSpec.preRow_of_cond 8 hx (by kernel_rfl) (fun k hk => by cases hk) (by kernel_rfl) (laid_met os))) ?_
  intro W base args ds gs before hval hW _ _ _ hL _ _
  exact contract H enc W args ds gs before hW hL

theorem said : Rows.ProofNoneSaid :=
  OpenClaim.holds_of_cond 3 Tryz.f3 rfl rfl rfl rfl rfl rfl rfl ⟨rfl, rfl, rfl, rfl, rfl⟩ rfl rfl rfl rfl rfl (by kernel_rfl) Tryz.func3 closed
    (of_decide_eq_true (by kernel_rfl)) (by unfold Func.isWrapper; first | (rw [if_pos (by decide +kernel)]; kernel_rfl) | (rw [if_neg (by decide +kernel)]; exact ⟨rfl, rfl⟩))
    (fun os started H enc _ F => by rw [OpenClaim.pre_eq_preRow]; exact lifted os started H enc F)

theorem plain (f : FuncId) (fn : Func) (hf : Tryz.pinned.checked.prog.funcNamed "victualler/victuallerlaw14.ProofNone" = some f) (hfn : Tryz.pinned.checked.prog.funcs[f]? = some fn) :
    true = Tryz.pinned.checked.prog.looks [] ∧ ∀ (j : Nat) t, fn.params[j]? = some t → Tryz.pinned.checked.prog.wantsStandIn t = false := by
  obtain rfl : f = 3 := Option.some.inj ((show Tryz.prog.funcNamed "victualler/victuallerlaw14.ProofNone" = some 3 by kernel_rfl).symm.trans hf) |>.symm
  obtain rfl : fn = Tryz.f3 := (Option.some.inj (Tryz.func3.symm.trans hfn)).symm
  refine ⟨by kernel_rfl, fun j t ht => ?_⟩
  rw [Tryz.params3] at ht
  simp at ht

/-- THE CARD. -/
theorem proofNone_card : Rows.ProofNoneCardSaid :=
  Claim7.holds_tied_plain_at .later [] _ _ _ _ said (fun _ h => by cases h) (by kernel_rfl) (fun _ h => by cases h) proofNone_row_tie rfl ⟨rfl, rfl⟩ (by kernel_rfl) rfl plain goes
#print axioms proofNone_card
end Go.Proofs.YtibgogaabdngjaaGreatDoor.pn
