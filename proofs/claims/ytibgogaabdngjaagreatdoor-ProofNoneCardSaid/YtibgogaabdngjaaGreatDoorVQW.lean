/- Part of a proof. ProofNone: the row's closed facts, one by one. -/
import Derived.Test.YtibgogaabdngjaaGreatDoorCards
import Derived.JoinedOf
import GoSem.ClaimGoes
import Derived.KernelRfl
import Derived.Test.YtibgogaabdngjaaGreatDoorV04
set_option linter.unusedVariables false
set_option maxRecDepth 100000
set_option maxHeartbeats 4000000
namespace Go.Proofs.YtibgogaabdngjaaGreatDoor.pn
theorem and_intro {a b : Bool} (ha : a = true) (hb : b = true) : (a && b) = true := by rw [ha, hb]; rfl
theorem k10 : (Rows.proofNoneRow.inPlace == Tryz.prog.inPlace 3) = true := by kernel_rfl
theorem k11 : (Rows.proofNoneRow.unfollowed == Tryz.prog.unfollowed 3) = true := by kernel_rfl
theorem unf : Tryz.prog.unfollowed 3 = true := by
  have := k11
  rw [beq_iff_eq] at this
  exact this.symm
theorem k12 : (Rows.proofNoneRow.recurses == Tryz.prog.recurses 3) = true := by
  unfold Program.recurses
  rw [unf]
  rfl
theorem k13 : (Rows.proofNoneRow.named == Tryz.prog.varsNamed 3) = true := by kernel_rfl
theorem closed : joinedFacts Tryz.prog 3 Tryz.f3 Rows.proofNoneSpec Rows.proofNoneRow = true := by
  unfold joinedFacts
  iterate 19 (refine and_intro ?_ (by as_aux_lemma => kernel_rfl))
  refine and_intro (and_intro (and_intro (and_intro ?_ k10) k11) k12) k13
  iterate 8 (refine and_intro ?_ (by as_aux_lemma => kernel_rfl))
  as_aux_lemma => kernel_rfl
end Go.Proofs.YtibgogaabdngjaaGreatDoor.pn
