/- Part of a proof. A closed call, run by the kernel. -/
import Derived.Test.YtibgogaabdngjaaGreatDoorV11
set_option linter.unusedSimpArgs false
set_option linter.unusedVariables false
set_option maxRecDepth 1000000
set_option maxHeartbeats 4000000
namespace Go.Vk
open Go.Proofs (Tryz.prog)
theorem ma_run : gaveL (callF Tryz.prog hkJ 1000 110 ma_A tab0) ma_r ma_nx ma_L = true := by
  rw [← callK_eq]
  kernel_rfl
end Go.Vk
