/- Part of a proof. victuallerlaw14.begun: the kernel's run. -/
import Derived.Test.YtibgogaabdngjaaGreatDoorVQF
import Derived.Test.YtibgogaabdngjaaGreatDoorV04
set_option linter.unusedSimpArgs false
set_option linter.unusedVariables false
set_option maxRecDepth 1000000
set_option maxHeartbeats 4000000
namespace Go.Vk
open Go.Proofs (Tryz.prog)
theorem begun14 : (callF Tryz.prog hkB 1000 7 [] tab0).map (·.1) = some (.bool true) := by
  rw [← callK_eq]
  kernel_rfl
abbrev hkQ : Hooks := orHk hkB (pureHk (lookG 7))
theorem hkQ_ok : CallOK Tryz.prog hkQ := orHk_ok hkB_ok (pureHk_ok (lookG_ok hkB_ok hkB_dom begun14))
theorem hkQ_dom : DomOK hkQ := orHk_dom hkB_dom pureHk_dom
theorem hkQ_grow : GrowOK hkQ := orHk_grow hkB_grow pureHk_grow
theorem frHkQ : FrHk5 hkQ := frHkB.sub Sub.left hkQ_grow
end Go.Vk
