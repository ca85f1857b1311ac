/- Part of a proof. victuallerlaw14.ProofNone: the kernel's run. -/
import Derived.Test.YtibgogaabdngjaaGreatDoorVQG
import Derived.Test.YtibgogaabdngjaaGreatDoorV04
set_option linter.unusedSimpArgs false
set_option linter.unusedVariables false
set_option maxRecDepth 1000000
set_option maxHeartbeats 4000000
namespace Go.Vk
open Go.Proofs (Tryz.prog)
theorem proofNone_told : (callF Tryz.prog hkQ 1000 3 [] tab0).map (·.1) = some (.bool true) := by
  rw [← callK_eq]
  kernel_rfl
theorem proofNone_run : ∃ h1, callF Tryz.prog hkQ 1000 3 [] tab0 = some (.bool true, h1) := by
  have h := proofNone_told
  rw [Option.map_eq_some_iff] at h
  obtain ⟨⟨r', h1⟩, h2, h3⟩ := h
  dsimp only at h3
  subst h3
  exact ⟨h1, h2⟩
end Go.Vk
