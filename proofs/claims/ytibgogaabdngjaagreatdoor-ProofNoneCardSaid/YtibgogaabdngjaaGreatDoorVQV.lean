/- Part of a proof. ProofNone: nothing that the program holds starts a goroutine. -/
import Derived.Test.YtibgogaabdngjaaGreatDoorCards
import GoSem.ClaimGoes
import Derived.KernelRfl
import Derived.Test.YtibgogaabdngjaaGreatDoorV04
set_option linter.unusedVariables false
set_option maxRecDepth 100000
set_option maxHeartbeats 4000000
namespace Go.Proofs.YtibgogaabdngjaaGreatDoor.pn
theorem noGo : Tryz.prog.funcs.toList.any Func.goes = false := by kernel_rfl
theorem goes : false = Rows.proofNoneRow.goesBy Tryz.prog := by
  have h1 : ∀ fn ∈ Tryz.prog.funcs.toList, Func.goes fn = false := by
    have := noGo
    rw [List.any_eq_false] at this
    exact fun fn hf => by simpa using this fn hf
  have h2 : ∀ f, Tryz.prog.goes f = false := fun f => by
    unfold Program.goes
    rw [Bool.or_eq_false_iff]
    refine ⟨?_, ?_⟩
    · rw [List.any_eq_false]
      intro g _
      cases hg : Tryz.prog.funcs[g]? with
      | none => simp
      | some fn =>
        have := h1 fn (by rw [Array.mem_toList_iff]; exact Array.mem_of_getElem? hg)
        simp [this]
    · rw [Bool.and_eq_false_iff]
      right
      rw [← Array.any_toList]
      exact noGo
  unfold OpenClaim.goesBy Program.goesAt
  have h3 : ∀ o : Option FuncId, o.any Tryz.prog.goes = false := fun o => by
    cases o with
    | none => rfl
    | some f => exact h2 f
  unfold Program.goesFrom
  rw [h3, show Rows.proofNoneRow.start = .entering from rfl]
  rfl
end Go.Proofs.YtibgogaabdngjaaGreatDoor.pn
