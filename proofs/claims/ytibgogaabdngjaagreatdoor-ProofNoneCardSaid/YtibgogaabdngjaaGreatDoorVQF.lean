/- Part of a proof. victuallerlaw7.Begun: the kernel's run. -/
import Derived.Test.YtibgogaabdngjaaGreatDoorVQE
import Derived.Test.YtibgogaabdngjaaGreatDoorV04
set_option linter.unusedSimpArgs false
set_option linter.unusedVariables false
set_option maxRecDepth 1000000
set_option maxHeartbeats 4000000
namespace Go.Vk
open Go.Proofs (Tryz.prog)
theorem begun7 : (callF Tryz.prog hkM 1000 38 [] tab0).map (·.1) = some (.bool true) := by
  rw [← callK_eq]
  kernel_rfl
abbrev hkB : Hooks := orHk hkM (pureHk (lookG 38))
theorem hkB_ok : CallOK Tryz.prog hkB := orHk_ok hkM_ok (pureHk_ok (lookG_ok hkM_ok hkM_dom begun7))
theorem hkB_dom : DomOK hkB := orHk_dom hkM_dom pureHk_dom
theorem hkB_grow : GrowOK hkB := orHk_grow hkM_grow pureHk_grow
theorem frHkB : FrHk5 hkB := frHkM.sub Sub.left hkB_grow
end Go.Vk
