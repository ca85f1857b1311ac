/- Part of a proof. The closed calls of the first looks: hooks. -/
import Derived.Test.YtibgogaabdngjaaGreatDoorVQEA
import Derived.Test.YtibgogaabdngjaaGreatDoorVQEB
import Derived.Test.YtibgogaabdngjaaGreatDoorVQEC
import Derived.Test.YtibgogaabdngjaaGreatDoorVQED
import Derived.Test.YtibgogaabdngjaaGreatDoorVQEE
import Derived.Test.YtibgogaabdngjaaGreatDoorV04
set_option linter.unusedSimpArgs false
set_option linter.unusedVariables false
set_option maxRecDepth 100000
namespace Go.Vk
open Go.Proofs (Tryz.prog)
def okTab (h : Hp) : Bool := match h.m.get 1 with
  | some (.row cs true) => AV.beqL cs pow10L
  | _ => false
theorem pow10L_flat : pow10L.all AV.flat = true := by kernel_rfl
theorem okTab_ok (h : Hp) (hh : okTab h = true) : Tables tab0 h := by
  intro b x hb
  have hb : ((PT.leaf : PT Blk).set 1 (.row pow10L true)).get b = some x := hb
  rw [PT.get_set] at hb
  split at hb
  · rename_i e
    injection hb with hb; subst hb; subst e
    unfold okTab at hh
    split at hh
    · rename_i cs hg
      have := AV.beqL_eq _ _ hh
      subst this
      exact ⟨by omega, hg, _, rfl, pow10L_flat⟩
    · cases hh
  · rw [PT.get_leaf] at hb; cases hb
abbrev mHa : Hooks := memoHk 110 ma_A ma_nx ma_L ma_r okTab
abbrev mHb : Hooks := memoHk 110 mb_A mb_nx mb_L mb_r okTab
abbrev mHc : Hooks := memoHk 111 mc_A mc_nx mc_L mc_r okTab
abbrev mHd : Hooks := memoHk 112 md_A md_nx md_L md_r okTab
abbrev mHe : Hooks := memoHk 113 me_A me_nx me_L me_r okTab
abbrev hkM : Hooks := orHk hkJ (orHk mHa (orHk mHb (orHk mHc (orHk mHd mHe))))
theorem hkM_ok : CallOK Tryz.prog hkM :=
  orHk_ok hkJ_ok (orHk_ok (memoHk_ok prog_mixed hkJ_ok hkJ_dom ma_run rfl (by kernel_rfl) (by kernel_rfl) okTab_ok)
    (orHk_ok (memoHk_ok prog_mixed hkJ_ok hkJ_dom mb_run rfl (by kernel_rfl) (by kernel_rfl) okTab_ok)
    (orHk_ok (memoHk_ok prog_mixed hkJ_ok hkJ_dom mc_run rfl (by kernel_rfl) (by kernel_rfl) okTab_ok)
    (orHk_ok (memoHk_ok prog_mixed hkJ_ok hkJ_dom md_run rfl (by kernel_rfl) (by kernel_rfl) okTab_ok)
      (memoHk_ok prog_mixed hkJ_ok hkJ_dom me_run rfl (by kernel_rfl) (by kernel_rfl) okTab_ok)))))
theorem hkM_dom : DomOK hkM := orHk_dom hkJ_dom (orHk_dom memoHk_dom (orHk_dom memoHk_dom (orHk_dom memoHk_dom (orHk_dom memoHk_dom memoHk_dom))))
theorem hkM_grow : GrowOK hkM := orHk_grow hkJ_grow (orHk_grow (memoHk_grow (by unfold ma_nx; omega) (by kernel_rfl)) (orHk_grow (memoHk_grow (by unfold mb_nx; omega) (by kernel_rfl)) (orHk_grow (memoHk_grow (by unfold mc_nx; omega) (by kernel_rfl)) (orHk_grow (memoHk_grow (by unfold md_nx; omega) (by kernel_rfl)) (memoHk_grow (by unfold me_nx; omega) (by kernel_rfl))))))
theorem frHkM : FrHk5 hkM := frHkJ.sub Sub.left hkM_grow
/-- A closed look that holds: a hook. -/
def lookG (F : FuncId) : FuncId → List AV → Hp → Option AV := fun f args h => match Nat.beq f F && AV.beqL args [] && okTab h with
  | true => some (.bool true)
  | false => none
theorem lookG_ok {hk : Hooks} (hhk : CallOK Tryz.prog hk) (hhd : DomOK hk) {n : Nat} {F : FuncId} (hrun : (callF Tryz.prog hk n F [] tab0).map (·.1) = some (.bool true)) : ∀ f args h r, lookG F f args h = some r → PureOK Tryz.prog f args h r := by
  intro f args h r hh
  unfold lookG at hh
  split at hh
  · rename_i hc
    simp only [Bool.and_eq_true] at hc
    injection hh with hh; subst hh
    have hf : f = F := Nat.eq_of_beq_eq_true hc.1.1
    have hA : args = [] := AV.beqL_eq _ _ hc.1.2
    subst hf; subst hA
    rw [Option.map_eq_some_iff] at hrun
    obtain ⟨⟨r', h1⟩, h2, h3⟩ := hrun
    dsimp only at h3
    subst h3
    exact memo_ok prog_mixed hhk hhd h2 rfl rfl rfl (okTab_ok h hc.2)
  · cases hh
end Go.Vk
