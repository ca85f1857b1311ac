/- Part of a proof. Texts cut: HasPrefix, CutPrefix, Cut at one byte. Fractions: hooks of Add, Mul, Div, Floor, Text; of nat.Get, CutPrefix, Cut. Fractions: Sub, Cmp, Get: the runs. Fractions: hooks of Sub, Cmp, Get. Hooks of nat.Twos, nat.Word. The contracts of the library at this program, in plain words. strings.Join: a hook, by the kit's contract. The closed calls of the first looks: what they give (printed by wip/tools/gen_vqd.py). -/
import Derived.Test.YtibgogaabdngjaaGreatDoorV10
import Derived.Shelf.Strings.Builder1
import Derived.Shelf.Strings.Builder2
import Derived.Shelf.Strings.OnBuilder
import Derived.Shelf.Small.Utf8
import Derived.Shelf.Small.Strs
import Derived.Shelf.Strings.Search1
import Derived.Test.YtibgogaabdngjaaGreatDoorProg
set_option linter.unusedSimpArgs false
set_option linter.unusedVariables false
set_option maxRecDepth 100000
set_option maxHeartbeats 4000000
namespace Go.Vk
open Go.Proofs (Tryz.prog)
def hasP (s p : List Nat) : Bool := Nat.ble p.length s.length && (s.take p.length == p)
structure BareC (hk : Hooks) : Prop where
  hasP : ∀ a h, hk 190 a h = none
  cutPI : ∀ a h, hk 127 a h = none
  cutP : ∀ a h, hk 86 a h = none
  index : ∀ a h, hk 191 a h = none
  indexB : ∀ a h, hk 262 a h = none
  cutI : ∀ a h, hk 128 a h = none
  cut : ∀ a h, hk 87 a h = none
theorem fn_hasP : fnE Tryz.prog 190 = some ⟨(Go.Proofs.Tryz.f190.body).getD .skip, 18, [.tmp 4]⟩ := by kernel_rfl
theorem hasP_run {hk : Hooks} (B : BareC hk) {M : PT Blk} {N : Nat} {s p : List Nat} :
    ExF Tryz.prog hk 190 [.str s, .str p] ⟨M, N⟩ fun r' h1 => r' = .bool (hasP s p) ∧ h1.m = M := by
  refine ExF.body fn_hasP (B.hasP _ _) (by simp) ?_
  simp only [Go.Proofs.Tryz.f190, Option.getD_some]
  (repeat refine Ex.assoc ?_); refine Ex.step (m := 0) (by simp (config := {decide := true}) only [RS, Nat.reduceAdd]; rfl) ?_
  refine Ex.forget fun E hE => ?_; have k0 := hE 0; simp (config := {decide := true}) only [RS, Nat.reduceAdd] at k0; have k1 := hE 1; simp (config := {decide := true}) only [RS, Nat.reduceAdd] at k1; clear hE; have g0 := k0; clear k0; have g1 := k1; clear k1
  by_cases hl : p.length ≤ s.length
  · have d1 : ((s.length : Nat) : Int) ≥ ((p.length : Nat) : Int) := by omega
    have z1 : (0 : Int) ≤ ((p.length : Nat) : Int) ∧ ((p.length : Nat) : Int) ≤ ((s.length : Nat) : Int) := by omega
    (repeat refine Ex.assoc ?_); refine Ex.step (m := 0) (by simp (config := {decide := true}) only [RS, Nat.reduceAdd, g0, g1, aLen, tStr, d1, z1, and_self, Int.toNat_natCast, List.drop_zero, Nat.sub_zero, aStr]; rfl) ?_
    refine Ex.ret ⟨trivial, _, by simp (config := {decide := true}) only [RS, Nat.reduceAdd]; rfl, ?_, rfl⟩
    unfold hasP
    rw [Nat.ble_eq_true_of_le hl]
    rfl
  · have d1 : ¬ ((s.length : Nat) : Int) ≥ ((p.length : Nat) : Int) := by omega
    (repeat refine Ex.assoc ?_); refine Ex.step (m := 0) (by simp (config := {decide := true}) only [RS, Nat.reduceAdd, g0, g1, aLen, tStr, d1]; rfl) ?_
    refine Ex.ret ⟨trivial, _, by simp (config := {decide := true}) only [RS, Nat.reduceAdd]; rfl, ?_, rfl⟩
    unfold hasP
    rw [show Nat.ble p.length s.length = false by rw [← Bool.not_eq_true, Nat.ble_eq]; exact hl]
    rfl
theorem fn_cutPI : fnE Tryz.prog 127 = some ⟨(Go.Proofs.Tryz.f127.body).getD .skip, 15, [.tmp 4, .tmp 5]⟩ := by kernel_rfl
def cutPr (s p : List Nat) : AV := if hasP s p = true then .tup [.str (s.drop p.length), .bool true] else .tup [.str s, .bool false]
theorem cutPI_run {hk : Hooks} (G : GrowOK hk) (B : BareC hk) {M : PT Blk} {N : Nat} {s p : List Nat} :
    ExF Tryz.prog hk 127 [.str s, .str p] ⟨M, N⟩ fun r' h1 => r' = cutPr s p ∧ h1.m = M := by
  refine ExF.body fn_cutPI (B.cutPI _ _) (by simp) ?_
  simp only [Go.Proofs.Tryz.f127, Option.getD_some]
  (repeat refine Ex.assoc ?_); refine Ex.step (m := 0) (by simp (config := {decide := true}) only [RS, Nat.reduceAdd, bytes_nil]; rfl) ?_
  refine Ex.forget fun E hE => ?_; have k0 := hE 0; simp (config := {decide := true}) only [RS, Nat.reduceAdd] at k0; have k1 := hE 1; simp (config := {decide := true}) only [RS, Nat.reduceAdd] at k1; clear hE; have g0 := k0; clear k0; have g1 := k1; clear k1
  obtain ⟨m1, N1, x1, q1⟩ := ExF.same G (hasP_run B (M := M) (N := N + 2 + 4) (s := s) (p := p))
  have q1' := q1 m1 (Nat.le_refl _)
  (repeat refine Ex.assoc ?_); refine Ex.step (m := m1) (by simp (config := {decide := true}) only [RS, Nat.reduceAdd, g0, g1, fn_hasP, q1']; rfl) ?_
  refine Ex.forget fun E hE => ?_; have k0 := hE 0; simp (config := {decide := true}) only [RS, Nat.reduceAdd, g0, g1] at k0; have k1 := hE 1; simp (config := {decide := true}) only [RS, Nat.reduceAdd, g0, g1] at k1; have k9 := hE 9; simp (config := {decide := true}) only [RS, Nat.reduceAdd, g0, g1] at k9; clear hE g0 g1; have g0 := k0; clear k0; have g1 := k1; clear k1; have g9 := k9; clear k9
  cases hp : hasP s p with
  | true =>
    rw [hp] at g9
    refine Ex.ifF (by simp (config := {decide := true}) only [RS, Nat.reduceAdd, g9] <;> rfl) (Ex.skipS ?_)
    have hl : p.length ≤ s.length := by
      unfold hasP at hp
      rw [Bool.and_eq_true, Nat.ble_eq] at hp
      exact hp.1
    have z1 : (0 : Int) ≤ ((p.length : Nat) : Int) ∧ ((p.length : Nat) : Int) ≤ ((s.length : Nat) : Int) := by omega
    have hz : List.take (s.length - p.length) (List.drop p.length s) = List.drop p.length s := by
      rw [List.take_of_length_le (by rw [List.length_drop]; omega)]
    (repeat refine Ex.assoc ?_); refine Ex.step (m := 0) (by simp (config := {decide := true}) only [RS, Nat.reduceAdd, g0, g1, aLen, tStr, z1, and_self, Int.toNat_natCast, hz]; rfl) ?_
    refine Ex.ret ⟨trivial, _, by simp (config := {decide := true}) only [RS, Nat.reduceAdd]; rfl, ?_, rfl⟩
    unfold cutPr
    rw [if_pos hp]
    rfl
  | false =>
    rw [hp] at g9
    refine Ex.ifT (by simp (config := {decide := true}) only [RS, Nat.reduceAdd, g9] <;> rfl) ?_
    (repeat refine Ex.assoc ?_); refine Ex.step (m := 0) (by simp (config := {decide := true}) only [RS, Nat.reduceAdd, g0]; rfl) ?_
    refine Ex.retS ⟨trivial, _, by simp (config := {decide := true}) only [RS, Nat.reduceAdd]; rfl, ?_, rfl⟩
    unfold cutPr
    rw [if_neg (by rw [hp]; exact Bool.false_ne_true)]
    rfl
theorem fn_cutP : fnE Tryz.prog 86 = some ⟨(Go.Proofs.Tryz.f86.body).getD .skip, 11, [.tmp 4, .tmp 5]⟩ := by kernel_rfl
theorem cutP_run {hk : Hooks} (G : GrowOK hk) (B : BareC hk) {M : PT Blk} {N : Nat} {s p : List Nat} :
    ExF Tryz.prog hk 86 [.str s, .str p] ⟨M, N⟩ fun r' h1 => r' = cutPr s p ∧ h1.m = M := by
  refine ExF.body fn_cutP (B.cutP _ _) (by simp) ?_
  simp only [Go.Proofs.Tryz.f86, Option.getD_some]
  (repeat refine Ex.assoc ?_); refine Ex.step (m := 0) (by simp (config := {decide := true}) only [RS, Nat.reduceAdd, bytes_nil]; rfl) ?_
  refine Ex.forget fun E hE => ?_; have k0 := hE 0; simp (config := {decide := true}) only [RS, Nat.reduceAdd] at k0; have k1 := hE 1; simp (config := {decide := true}) only [RS, Nat.reduceAdd] at k1; clear hE; have g0 := k0; clear k0; have g1 := k1; clear k1
  obtain ⟨m1, N1, x1, q1⟩ := ExF.same G (cutPI_run G B (M := M) (N := N + 2 + 7) (s := s) (p := p))
  have q1' := q1 m1 (Nat.le_refl _)
  obtain ⟨a, b, hab⟩ : ∃ a b, cutPr s p = .tup [.str a, .bool b] := by
    unfold cutPr
    split
    · exact ⟨_, _, rfl⟩
    · exact ⟨_, _, rfl⟩
  rw [hab] at q1'
  (repeat refine Ex.assoc ?_); refine Ex.step (m := m1) (by simp (config := {decide := true}) only [RS, Nat.reduceAdd, g0, g1, fn_cutPI, q1']; rfl) ?_
  refine Ex.ret ⟨trivial, _, by simp (config := {decide := true}) only [RS, Nat.reduceAdd]; rfl, ?_, rfl⟩
  rw [hab]
  rfl
/-! ### the first place of a byte -/
theorem idxF_cases : ∀ (s : List Nat) (c : Nat) (k : Nat), idxF s c k = -1 ∨ ∃ j : Nat, idxF s c k = ((k + j : Nat) : Int) ∧ j < s.length
  | [], c, k => .inl rfl
  | b :: l, c, k => by
    unfold idxF
    split
    · exact .inr ⟨0, rfl, by simp⟩
    · rcases idxF_cases l c (k + 1) with h | ⟨j, h1, h2⟩
      · exact .inl h
      · exact .inr ⟨j + 1, by rw [h1, Nat.add_assoc, Nat.add_comm 1], by simp only [List.length_cons]; omega⟩
theorem no_idx : fnE Tryz.prog 336 = none := by kernel_rfl
theorem ext_idx {s : List Nat} {n : Int} : extA Tryz.prog 336 [.str s, .int .u8 n] = if 0 ≤ n then some (.int .i64 (idxF s (n.toNat % 256) 0)) else none := by kernel_rfl
theorem fn_indexB : fnE Tryz.prog 262 = some ⟨(Go.Proofs.Tryz.f262.body).getD .skip, 8, [.tmp 4]⟩ := by kernel_rfl
theorem indexB_run {hk : Hooks} (B : BareC hk) {M : PT Blk} {N : Nat} {s : List Nat} {c : Nat} (hc : c < 256) :
    ExF Tryz.prog hk 262 [.str s, .int .u8 c] ⟨M, N⟩ fun r' h1 => r' = .int .i64 (idxF s c 0) ∧ h1.m = M := by
  refine ExF.body fn_indexB (B.indexB _ _) (by simp) ?_
  simp only [Go.Proofs.Tryz.f262, Option.getD_some]
  (repeat refine Ex.assoc ?_); refine Ex.step (m := 0) (by simp (config := {decide := true}) only [RS, Nat.reduceAdd]; rfl) ?_
  refine Ex.forget fun E hE => ?_; have k0 := hE 0; simp (config := {decide := true}) only [RS, Nat.reduceAdd] at k0; have k1 := hE 1; simp (config := {decide := true}) only [RS, Nat.reduceAdd] at k1; clear hE; have g0 := k0; clear k0; have g1 := k1; clear k1
  have z0 : (0 : Int) ≤ ((c : Nat) : Int) := by omega
  have z1 : ((c : Nat) : Int).toNat % 256 = c := by omega
  (repeat refine Ex.assoc ?_); refine Ex.step (m := 0) (by simp (config := {decide := true}) only [RS, Nat.reduceAdd, g0, g1, no_idx, ext_idx, z0, z1]; rfl) ?_
  refine Ex.ret ⟨trivial, _, by simp (config := {decide := true}) only [RS, Nat.reduceAdd]; rfl, ?_, rfl⟩
  simp (config := {decide := true}) only [RS, Nat.reduceAdd]
theorem fn_index : fnE Tryz.prog 191 = some ⟨(Go.Proofs.Tryz.f191.body).getD .skip, 143, [.tmp 4]⟩ := by kernel_rfl
theorem index_run {hk : Hooks} (G : GrowOK hk) (B : BareC hk) {M : PT Blk} {N : Nat} {s : List Nat} {c : Nat} (hc : c < 256) :
    ExF Tryz.prog hk 191 [.str s, .str [c]] ⟨M, N⟩ fun r' h1 => r' = .int .i64 (idxF s c 0) ∧ h1.m = M := by
  refine ExF.body fn_index (B.index _ _) (by simp) ?_
  simp only [Go.Proofs.Tryz.f191, Option.getD_some]
  (repeat refine Ex.assoc ?_); refine Ex.step (m := 0) (by simp (config := {decide := true}) only [RS, Nat.reduceAdd]; rfl) ?_
  refine Ex.forget fun E hE => ?_; have k0 := hE 0; simp (config := {decide := true}) only [RS, Nat.reduceAdd] at k0; have k1 := hE 1; simp (config := {decide := true}) only [RS, Nat.reduceAdd] at k1; clear hE; have g0 := k0; clear k0; have g1 := k1; clear k1
  have e1 : (([c].length : Nat) : Int) = 1 := rfl
  have e10 : ((1 : Int) == 0) = false := rfl
  have e11 : ((1 : Int) == 1) = true := rfl
  (repeat refine Ex.assoc ?_); refine Ex.step (m := 0) (by simp (config := {decide := true}) only [RS, Nat.reduceAdd, g1, aLen, tStr]; rfl) ?_
  refine Ex.forget fun E hE => ?_; have k0 := hE 0; simp (config := {decide := true}) only [RS, Nat.reduceAdd, g0, g1] at k0; have k1 := hE 1; simp (config := {decide := true}) only [RS, Nat.reduceAdd, g0, g1] at k1; have k5 := hE 5; simp (config := {decide := true}) only [RS, Nat.reduceAdd, g0, g1] at k5; clear hE g0 g1; have g0 := k0; clear k0; have g1 := k1; clear k1; have g5 := k5; clear k5
  rw [show ((1 : Nat) : Int) = 1 from rfl] at g5
  refine Ex.seq (Ex.block ?_)
  (repeat refine Ex.assoc ?_); refine Ex.step (m := 0) (by simp (config := {decide := true}) only [RS, Nat.reduceAdd, g5, e10, g1, g0, aStr]; rfl) ?_
  refine Ex.forget fun E hE => ?_; have k0 := hE 0; simp (config := {decide := true}) only [RS, Nat.reduceAdd, g0, g1, g5] at k0; have k1 := hE 1; simp (config := {decide := true}) only [RS, Nat.reduceAdd, g0, g1, g5] at k1; have k5 := hE 5; simp (config := {decide := true}) only [RS, Nat.reduceAdd, g0, g1, g5] at k5; have k16 := hE 16; simp (config := {decide := true}) only [RS, Nat.reduceAdd, g0, g1, g5] at k16; clear hE g0 g1 g5; have g0 := k0; clear k0; have g1 := k1; clear k1; have g5 := k5; clear k5; have g16 := k16; clear k16
  by_cases hs : s = [c]
  · subst hs
    have e2 : (([c] : List Nat) == [c]) = true := by rw [beq_self_eq_true]
    rw [e2] at g16
    refine Ex.cond_true (by simp (config := {decide := true}) only [RS, Nat.reduceAdd, g16] <;> rfl) ?_
    (repeat refine Ex.assoc ?_); refine Ex.step (m := 0) (by simp (config := {decide := true}) only [RS, Nat.reduceAdd]; rfl) ?_
    refine Ex.ret ?_
    simp (config := {decide := true}) only [thenK, blockK, ite_true, ite_false, if_true, if_false]
    refine ⟨trivial, _, by simp (config := {decide := true}) only [RS, Nat.reduceAdd]; rfl, ?_, by trivial⟩
    have : idxF [c] c 0 = 0 := by
      unfold idxF
      rw [if_pos (by rw [Nat.beq_eq])]
      rfl
    rw [this]
    rfl
  · have e2 : ([c] == s) = false := by
      rw [beq_eq_false_iff_ne]
      exact fun e => hs e.symm
    rw [e2] at g16
    refine Ex.cond_false (by simp (config := {decide := true}) only [RS, Nat.reduceAdd, g16] <;> rfl) ?_
    (repeat refine Ex.assoc ?_); refine Ex.step (m := 0) (by simp (config := {decide := true}) only [RS, Nat.reduceAdd, g5, e11]; rfl) ?_
    refine Ex.forget fun E hE => ?_; have k0 := hE 0; simp (config := {decide := true}) only [RS, Nat.reduceAdd, g0, g1, g5, g16] at k0; have k1 := hE 1; simp (config := {decide := true}) only [RS, Nat.reduceAdd, g0, g1, g5, g16] at k1; have k24 := hE 24; simp (config := {decide := true}) only [RS, Nat.reduceAdd, g0, g1, g5, g16] at k24; clear hE g0 g1 g5 g16; have g0 := k0; clear k0; have g1 := k1; clear k1; have g24 := k24; clear k24
    refine Ex.cond_true (by simp (config := {decide := true}) only [RS, Nat.reduceAdd, g24] <;> rfl) ?_
    obtain ⟨N0, hN0⟩ : ∃ n, n = N := ⟨_, rfl⟩
    obtain ⟨m1, N1, x1, q1⟩ := ExF.same G (indexB_run B (M := M) (N := N + 1 + 3 + 8 + 3 + 5) (s := s) hc)
    have q1' := q1 m1 (Nat.le_refl _)
    (repeat refine Ex.assoc ?_); refine Ex.step (m := m1) (by simp (config := {decide := true}) only [RS, Nat.reduceAdd, g0, g1, tStr, Int.toNat_zero, fn_indexB, q1']; rfl) ?_
    refine Ex.ret ?_
    simp (config := {decide := true}) only [thenK, blockK, ite_true, ite_false, if_true, if_false]
    refine ⟨trivial, _, by simp (config := {decide := true}) only [RS, Nat.reduceAdd]; rfl, ?_, by trivial⟩
    simp (config := {decide := true}) only [RS, Nat.reduceAdd]
theorem fn_cutI : fnE Tryz.prog 128 = some ⟨(Go.Proofs.Tryz.f128.body).getD .skip, 23, [.tmp 4, .tmp 5, .tmp 6]⟩ := by kernel_rfl
def cutA (s : List Nat) (c : Nat) : AV := if idxF s c 0 = -1 then .tup [.str s, .str [], .bool false] else .tup [.str (s.take (idxF s c 0).toNat), .str (s.drop ((idxF s c 0).toNat + 1)), .bool true]
theorem cutI_run {hk : Hooks} (G : GrowOK hk) (B : BareC hk) {M : PT Blk} {N : Nat} {s : List Nat} {c : Nat} (hc : c < 256) (hl : s.length < 1000000000000) :
    ExF Tryz.prog hk 128 [.str s, .str [c]] ⟨M, N⟩ fun r' h1 => r' = cutA s c ∧ h1.m = M := by
  refine ExF.body fn_cutI (B.cutI _ _) (by simp) ?_
  simp only [Go.Proofs.Tryz.f128, Option.getD_some]
  (repeat refine Ex.assoc ?_); refine Ex.step (m := 0) (by simp (config := {decide := true}) only [RS, Nat.reduceAdd, bytes_nil]; rfl) ?_
  refine Ex.forget fun E hE => ?_; have k0 := hE 0; simp (config := {decide := true}) only [RS, Nat.reduceAdd] at k0; have k1 := hE 1; simp (config := {decide := true}) only [RS, Nat.reduceAdd] at k1; clear hE; have g0 := k0; clear k0; have g1 := k1; clear k1
  obtain ⟨m1, N1, x1, q1⟩ := ExF.same G (index_run G B (M := M) (N := N + 3 + 4) (s := s) hc)
  have q1' := q1 m1 (Nat.le_refl _)
  (repeat refine Ex.assoc ?_); refine Ex.step (m := m1) (by simp (config := {decide := true}) only [RS, Nat.reduceAdd, g0, g1, fn_index, q1']; rfl) ?_
  refine Ex.forget fun E hE => ?_; have k0 := hE 0; simp (config := {decide := true}) only [RS, Nat.reduceAdd, g0, g1] at k0; have k1 := hE 1; simp (config := {decide := true}) only [RS, Nat.reduceAdd, g0, g1] at k1; have k7 := hE 7; simp (config := {decide := true}) only [RS, Nat.reduceAdd, g0, g1] at k7; clear hE g0 g1; have g0 := k0; clear k0; have g1 := k1; clear k1; have g7 := k7; clear k7
  rcases idxF_cases s c 0 with hi | ⟨j, hi, hj⟩
  · rw [hi] at g7
    (repeat refine Ex.assoc ?_); refine Ex.step (m := 0) (by simp (config := {decide := true}) only [RS, Nat.reduceAdd, g7]; rfl) ?_
    refine Ex.forget fun E hE => ?_; have k0 := hE 0; simp (config := {decide := true}) only [RS, Nat.reduceAdd, g0, g1, g7] at k0; have k12 := hE 12; simp (config := {decide := true}) only [RS, Nat.reduceAdd, g0, g1, g7] at k12; clear hE g0 g1 g7; have g0 := k0; clear k0; have g12 := k12; clear k12
    refine Ex.ifF (by simp (config := {decide := true}) only [RS, Nat.reduceAdd, g12] <;> rfl) (Ex.skipS ?_)
    (repeat refine Ex.assoc ?_); refine Ex.step (m := 0) (by simp (config := {decide := true}) only [RS, Nat.reduceAdd, g0, bytes_nil]; rfl) ?_
    refine Ex.ret ⟨trivial, _, by simp (config := {decide := true}) only [RS, Nat.reduceAdd]; rfl, ?_, rfl⟩
    unfold cutA
    rw [if_pos hi]
    rfl
  · rw [Nat.zero_add] at hi
    rw [hi] at g7
    have d1 : ((j : Nat) : Int) ≥ 0 := by omega
    (repeat refine Ex.assoc ?_); refine Ex.step (m := 0) (by simp (config := {decide := true}) only [RS, Nat.reduceAdd, g7, d1]; rfl) ?_
    refine Ex.forget fun E hE => ?_; have k0 := hE 0; simp (config := {decide := true}) only [RS, Nat.reduceAdd, g0, g1, g7] at k0; have k1 := hE 1; simp (config := {decide := true}) only [RS, Nat.reduceAdd, g0, g1, g7] at k1; have k7 := hE 7; simp (config := {decide := true}) only [RS, Nat.reduceAdd, g0, g1, g7] at k7; have k12 := hE 12; simp (config := {decide := true}) only [RS, Nat.reduceAdd, g0, g1, g7] at k12; clear hE g0 g1 g7; have g0 := k0; clear k0; have g1 := k1; clear k1; have g7 := k7; clear k7; have g12 := k12; clear k12
    refine Ex.ifT (by simp (config := {decide := true}) only [RS, Nat.reduceAdd, g12] <;> rfl) ?_
    have z1 : (0 : Int) ≤ ((j : Nat) : Int) ∧ ((j : Nat) : Int) ≤ ((s.length : Nat) : Int) := by omega
    have z2 : (0 : Int) ≤ ((j + 1 : Nat) : Int) ∧ ((j + 1 : Nat) : Int) ≤ ((s.length : Nat) : Int) := by omega
    have w1 : IntKind.i64.wrap (((j : Nat) : Int) + ((1 : Nat) : Int)) = ((j + 1 : Nat) : Int) := by rw [wrap_i64] <;> omega
    have hl1 : ([c] : List Nat).length = 1 := rfl
    have hz : List.take (s.length - (j + 1)) (List.drop (j + 1) s) = List.drop (j + 1) s := by
      rw [List.take_of_length_le (by rw [List.length_drop]; omega)]
    (repeat refine Ex.assoc ?_); refine Ex.step (m := 0) (by rw [drawR (B := [0, 0, 3, 0, 0, 0, 32, 112, 248, 7, 1023, 2047]) (ord := [0, 1, 2, 3, 4, 5, 6, 7, 8, 9, 10, 11]) (by kernel_rfl) (by kernel_rfl) (by kernel_rfl)]; simp (config := {decide := true}) only [RS, Nat.reduceAdd, drawOps, drawStep, readOk, readsA, segsOk, blkOk, Bool.true_or, Bool.or_true, AV.beqL_refl, g0, g1, g7, tStr, aLen, w1, z1, z2, and_self, Int.toNat_natCast, List.drop_zero, Nat.sub_zero, hz]; rfl) ?_
    refine Ex.retS ⟨trivial, _, by simp (config := {decide := true}) only [RS, Nat.reduceAdd]; rfl, ?_, rfl⟩
    unfold cutA
    rw [if_neg (by rw [hi]; omega), hi, Int.toNat_natCast]
    rfl
theorem fn_cut : fnE Tryz.prog 87 = some ⟨(Go.Proofs.Tryz.f87.body).getD .skip, 13, [.tmp 4, .tmp 5, .tmp 6]⟩ := by kernel_rfl
theorem cut_run {hk : Hooks} (G : GrowOK hk) (B : BareC hk) {M : PT Blk} {N : Nat} {s : List Nat} {c : Nat} (hc : c < 256) (hl : s.length < 1000000000000) :
    ExF Tryz.prog hk 87 [.str s, .str [c]] ⟨M, N⟩ fun r' h1 => r' = cutA s c ∧ h1.m = M := by
  refine ExF.body fn_cut (B.cut _ _) (by simp) ?_
  simp only [Go.Proofs.Tryz.f87, Option.getD_some]
  (repeat refine Ex.assoc ?_); refine Ex.step (m := 0) (by simp (config := {decide := true}) only [RS, Nat.reduceAdd, bytes_nil]; rfl) ?_
  refine Ex.forget fun E hE => ?_; have k0 := hE 0; simp (config := {decide := true}) only [RS, Nat.reduceAdd] at k0; have k1 := hE 1; simp (config := {decide := true}) only [RS, Nat.reduceAdd] at k1; clear hE; have g0 := k0; clear k0; have g1 := k1; clear k1
  obtain ⟨m1, N1, x1, q1⟩ := ExF.same G (cutI_run G B (M := M) (N := N + 3 + 9) hc hl)
  have q1' := q1 m1 (Nat.le_refl _)
  obtain ⟨a, b, t, hab⟩ : ∃ a b t, cutA s c = .tup [.str a, .str b, .bool t] := by
    unfold cutA
    split
    · exact ⟨_, _, _, rfl⟩
    · exact ⟨_, _, _, rfl⟩
  rw [hab] at q1'
  (repeat refine Ex.assoc ?_); refine Ex.step (m := m1) (by simp (config := {decide := true}) only [RS, Nat.reduceAdd, g0, g1, fn_cutI, q1']; rfl) ?_
  refine Ex.ret ⟨trivial, _, by simp (config := {decide := true}) only [RS, Nat.reduceAdd]; rfl, ?_, rfl⟩
  rw [hab]
  rfl
end Go.Vk
set_option linter.unusedSimpArgs false
set_option linter.unusedVariables false
set_option maxRecDepth 100000
set_option maxHeartbeats 4000000
namespace Go.Vk
open Go.Proofs (Tryz.prog)
def frB (n d : Nat) : Bool := Nat.blt (Nat.log2 n) 10000000000 && Nat.blt (Nat.log2 d) 10000000000 && Nat.blt 0 d
theorem frB_iff {n d : Nat} : frB n d = true ↔ szF n ∧ szF d ∧ 0 < d := by
  unfold frB szF
  rw [Bool.and_eq_true, Bool.and_eq_true, Nat.blt_eq, Nat.blt_eq, Nat.blt_eq, and_assoc]
def fr1 (g : Bool → Nat → Nat → AV) : List AV → Option AV
  | [v] => match frV v with
    | some (s, n, d) => if frB n d = true then some (g s n d) else none
    | none => none
  | _ => none
def fr2 (g : Bool → Nat → Nat → Bool → Nat → Nat → AV) : List AV → Option AV
  | [v, w] => match frV v, frV w with
    | some (s, n, d), some (t, m, e) => if (frB n d && frB m e) = true then some (g s n d t m e) else none
    | _, _ => none
  | _ => none
theorem fr1_some {g : Bool → Nat → Nat → AV} {args : List AV} {r : AV} (h : fr1 g args = some r) : ∃ v s n d, args = [v] ∧ frV v = some (s, n, d) ∧ szF n ∧ szF d ∧ 0 < d ∧ r = g s n d := by
  unfold fr1 at h
  split at h
  · rename_i v
    split at h
    · rename_i s n d hv
      split at h
      · rename_i hz
        injection h with h
        obtain ⟨h1, h2, h3⟩ := frB_iff.1 hz
        exact ⟨v, s, n, d, rfl, hv, h1, h2, h3, h.symm⟩
      · cases h
    · cases h
  · cases h
theorem fr2_some {g : Bool → Nat → Nat → Bool → Nat → Nat → AV} {args : List AV} {r : AV} (h : fr2 g args = some r) :
    ∃ v w s n d t m e, args = [v, w] ∧ frV v = some (s, n, d) ∧ frV w = some (t, m, e) ∧ szF n ∧ szF d ∧ szF m ∧ szF e ∧ 0 < d ∧ 0 < e ∧ r = g s n d t m e := by
  unfold fr2 at h
  split at h
  · rename_i v w
    split at h
    · rename_i s n d t m e hv hw
      split at h
      · rename_i hz
        injection h with h
        rw [Bool.and_eq_true] at hz
        obtain ⟨h1, h2, h3⟩ := frB_iff.1 hz.1
        obtain ⟨h4, h5, h6⟩ := frB_iff.1 hz.2
        exact ⟨v, w, s, n, d, t, m, e, rfl, hv, hw, h1, h2, h4, h5, h3, h6, h.symm⟩
      · cases h
    · cases h
  · cases h
theorem fr1_ok {g : Bool → Nat → Nat → AV} {v : AV} {s : Bool} {n d : Nat} (hv : frV v = some (s, n, d)) (h1 : szF n) (h2 : szF d) (h3 : 0 < d) : fr1 g [v] = some (g s n d) := by
  unfold fr1; simp only; rw [hv]; simp only; rw [if_pos (frB_iff.2 ⟨h1, h2, h3⟩)]
theorem fr2_ok {g : Bool → Nat → Nat → Bool → Nat → Nat → AV} {v w : AV} {s t : Bool} {n d m e : Nat} (hv : frV v = some (s, n, d)) (hw : frV w = some (t, m, e)) (h1 : szF n) (h2 : szF d) (h3 : szF m) (h4 : szF e) (h5 : 0 < d) (h6 : 0 < e) :
    fr2 g [v, w] = some (g s n d t m e) := by
  unfold fr2; simp only; rw [hv, hw]; simp only; rw [if_pos (by rw [frB_iff.2 ⟨h1, h2, h5⟩, frB_iff.2 ⟨h3, h4, h6⟩]; rfl)]
def strB (s : List Nat) : Bool := s.all (Nat.blt · 256) && Nat.blt s.length 1000000000000
theorem strB_iff {s : List Nat} : strB s = true ↔ s.all (Nat.blt · 256) = true ∧ s.length < 1000000000000 := by
  unfold strB; rw [Bool.and_eq_true, Nat.blt_eq]
def getR (s : List Nat) : AV := if getBad s = true then .tup [.nilp, .bool false] else .tup [.opq (.nat (tv 0 s)), .bool true]
def gU : FuncId → List AV → Hp → Option AV := fun f args h =>
  if f = 44 then fr2 (fun s n d t m e => .opq (addF s n d t m e)) args
  else if f = 47 then fr2 (fun s n d t m e => .opq (mkF (!(s == t)) (n * m) (d * e))) args
  else if f = 45 then fr2 (fun s n d t m e => divF s n d t m e) args
  else if f = 208 then fr1 (fun s n d => .opq (mkF s (floorN s n d) 1)) args
  else if f = 39 then (if hasPow h = true then fr1 (fun s n d => .str (txtF s n d)) args else none)
  else if f = 88 then match args with
    | [.str s] => if strB s = true then some (getR s) else none
    | _ => none
  else if f = 86 then match args with
    | [.str s, .str p] => some (cutPr s p)
    | _ => none
  else if f = 87 then match args with
    | [.str s, .str [c]] => if (strB s && Nat.blt c 256) = true then some (cutA s c) else none
    | _ => none
  else none
theorem bareC {hk : Hooks} (h : ∀ f, f = 190 ∨ f = 127 ∨ f = 86 ∨ f = 191 ∨ f = 262 ∨ f = 128 ∨ f = 87 → ∀ a hp, hk f a hp = none) : BareC hk :=
  ⟨h _ (.inl rfl), h _ (.inr (.inl rfl)), h _ (.inr (.inr (.inl rfl))), h _ (.inr (.inr (.inr (.inl rfl)))), h _ (.inr (.inr (.inr (.inr (.inl rfl))))), h _ (.inr (.inr (.inr (.inr (.inr (.inl rfl)))))), h _ (.inr (.inr (.inr (.inr (.inr (.inr rfl))))))⟩
theorem bareC0 : BareC (fun _ _ _ => none) := bareC fun _ _ _ _ => rfl
theorem noHk_grow : GrowOK (fun _ _ _ => none) := fun f args h r h1 hh => by cases hh
theorem getR_free (s : List Nat) : (getR s).free = true := by unfold getR; split <;> rfl
theorem cutPr_free (s p : List Nat) : (cutPr s p).free = true := by unfold cutPr; split <;> rfl
theorem cutA_free (s : List Nat) (c : Nat) : (cutA s c).free = true := by unfold cutA; split <;> rfl
theorem divF_free (s : Bool) (n d : Nat) (t : Bool) (m e : Nat) : (divF s n d t m e).free = true := by unfold divF; split <;> rfl
theorem ExF.of_same {hk : Hooks} {f : FuncId} {args : List AV} {h : Hp} {r : AV} (H : ExF Tryz.prog hk f args h fun r' h1 => r' = r ∧ h1.m = h.m) : ExF Tryz.prog hk f args h fun r' h1 => r' = r ∧ h.sub h1 :=
  H.mono fun r' h1 ⟨e1, e2⟩ => ⟨e1, fun b x hb => by rw [e2]; exact hb⟩
theorem gU_ok : ∀ f args h r, gU f args h = some r → PureOK Tryz.prog f args h r := by
  intro f args h r hh
  unfold gU at hh
  split at hh
  · rename_i hf
    subst hf
    obtain ⟨v, w, s, n, d, t, m, e, rfl, hv, hw, k1, k2, k3, k4, k5, k6, rfl⟩ := fr2_some hh
    exact pure_free hkV_ok hkV_dom rfl fun hf => fadd_run frHkV (fun _ _ => rfl) hv hw k1 k2 k3 k4 k5 k6
  split at hh
  · rename_i hf
    subst hf
    obtain ⟨v, w, s, n, d, t, m, e, rfl, hv, hw, k1, k2, k3, k4, k5, k6, rfl⟩ := fr2_some hh
    exact pure_free hkV_ok hkV_dom rfl fun hf => fmul_run frHkV (fun _ _ => rfl) hv hw k1 k2 k3 k4 k5 k6
  split at hh
  · rename_i hf
    subst hf
    obtain ⟨v, w, s, n, d, t, m, e, rfl, hv, hw, k1, k2, k3, k4, k5, k6, rfl⟩ := fr2_some hh
    exact pure_free hkV_ok hkV_dom (divF_free ..) fun hf => fdiv_run frHkV (fun _ _ => rfl) hv hw k1 k2 k3 k4 k5 k6
  split at hh
  · rename_i hf
    subst hf
    obtain ⟨v, s, n, d, rfl, hv, k1, k2, k3, rfl⟩ := fr1_some hh
    exact pure_free hkV_ok hkV_dom rfl fun hf => floor_run frHkV (fun _ _ => rfl) hv k1 k2 k3
  split at hh
  · rename_i hf
    subst hf
    split at hh
    · rename_i hp
      obtain ⟨v, s, n, d, rfl, hv, k1, k2, k3, rfl⟩ := fr1_some hh
      exact pure_free hkV_ok hkV_dom rfl fun hf => ftext_run frHkV (fun _ _ => rfl) hp hv k1 k2
    · cases hh
  split at hh
  · rename_i hf
    subst hf
    split at hh
    · rename_i s
      split at hh
      · rename_i hs
        injection hh with hh; subst hh
        obtain ⟨k1, k2⟩ := strB_iff.1 hs
        exact pure_free hkV_ok hkV_dom (getR_free s) fun hf => ExF.of_same (get_run frHkV.toNatHk (fun _ _ => rfl) k1 k2)
      · cases hh
    · cases hh
  split at hh
  · rename_i hf
    subst hf
    split at hh
    · rename_i s p
      injection hh with hh; subst hh
      exact pure_free noHk_ok noHk_dom (cutPr_free s p) fun hf => ExF.of_same (cutP_run noHk_grow bareC0)
    · cases hh
  split at hh
  · rename_i hf
    subst hf
    split at hh
    · rename_i s c
      split at hh
      · rename_i hs
        injection hh with hh; subst hh
        rw [Bool.and_eq_true, Nat.blt_eq] at hs
        exact pure_free noHk_ok noHk_dom (cutA_free s c) fun hf => ExF.of_same (cut_run noHk_grow bareC0 hs.2 (strB_iff.1 hs.1).2)
      · cases hh
    · cases hh
  cases hh
structure FrHk4 (hk : Hooks) : Prop extends FrHk3 hk where
  fadd : ∀ {h : Hp} {v w : AV} {s t : Bool} {n d m e : Nat}, frV v = some (s, n, d) → frV w = some (t, m, e) → szF n → szF d → szF m → szF e → 0 < d → 0 < e → hk 44 [v, w] h = some (.opq (addF s n d t m e), h)
  fmul : ∀ {h : Hp} {v w : AV} {s t : Bool} {n d m e : Nat}, frV v = some (s, n, d) → frV w = some (t, m, e) → szF n → szF d → szF m → szF e → 0 < d → 0 < e → hk 47 [v, w] h = some (.opq (mkF (!(s == t)) (n * m) (d * e)), h)
  fdiv : ∀ {h : Hp} {v w : AV} {s t : Bool} {n d m e : Nat}, frV v = some (s, n, d) → frV w = some (t, m, e) → szF n → szF d → szF m → szF e → 0 < d → 0 < e → hk 45 [v, w] h = some (divF s n d t m e, h)
  floor : ∀ {h : Hp} {v : AV} {s : Bool} {n d : Nat}, frV v = some (s, n, d) → szF n → szF d → 0 < d → hk 208 [v] h = some (.opq (mkF s (floorN s n d) 1), h)
  ftext : ∀ {h : Hp} {v : AV} {s : Bool} {n d : Nat}, frV v = some (s, n, d) → szF n → szF d → 0 < d → hasPow h = true → hk 39 [v] h = some (.str (txtF s n d), h)
  get : ∀ {h : Hp} {s : List Nat}, strB s = true → hk 88 [.str s] h = some (getR s, h)
  cutP : ∀ {h : Hp} {s p : List Nat}, hk 86 [.str s, .str p] h = some (cutPr s p, h)
  cut : ∀ {h : Hp} {s : List Nat} {c : Nat}, strB s = true → c < 256 → hk 87 [.str s, .str [c]] h = some (cutA s c, h)
theorem FrHk4.sub {a b : Hooks} (S : Sub a b) (G : GrowOK b) (B : FrHk4 a) : FrHk4 b :=
  { B.toFrHk3.sub S G with
    fadd := fun a1 a2 a3 a4 a5 a6 a7 a8 => S _ _ _ _ (B.fadd a1 a2 a3 a4 a5 a6 a7 a8)
    fmul := fun a1 a2 a3 a4 a5 a6 a7 a8 => S _ _ _ _ (B.fmul a1 a2 a3 a4 a5 a6 a7 a8)
    fdiv := fun a1 a2 a3 a4 a5 a6 a7 a8 => S _ _ _ _ (B.fdiv a1 a2 a3 a4 a5 a6 a7 a8)
    floor := fun a1 a2 a3 a4 => S _ _ _ _ (B.floor a1 a2 a3 a4)
    ftext := fun a1 a2 a3 a4 a5 => S _ _ _ _ (B.ftext a1 a2 a3 a4 a5)
    get := fun a1 => S _ _ _ _ (B.get a1)
    cutP := S _ _ _ _ B.cutP
    cut := fun a1 a2 => S _ _ _ _ (B.cut a1 a2) }
abbrev hkU : Hooks := orHk hkV (pureHk gU)
theorem hkU_ok : CallOK Tryz.prog hkU := orHk_ok hkV_ok (pureHk_ok gU_ok)
theorem hkU_dom : DomOK hkU := orHk_dom hkV_dom pureHk_dom
theorem hkU_grow : GrowOK hkU := orHk_grow hkV_grow pureHk_grow
theorem gU_hkU {f : FuncId} {args : List AV} {h : Hp} {r : AV} (h0 : hkV f args h = none) (h1 : gU f args h = some r) : hkU f args h = some (r, h) :=
  (orHk_right h0).trans (pureHk_some h1)
theorem frHkU : FrHk4 hkU := { frHkV.sub Sub.left hkU_grow with
  fadd := fun a1 a2 a3 a4 a5 a6 a7 a8 => gU_hkU rfl (by unfold gU; rw [if_pos rfl, fr2_ok a1 a2 a3 a4 a5 a6 a7 a8])
  fmul := fun a1 a2 a3 a4 a5 a6 a7 a8 => gU_hkU rfl (by unfold gU; rw [if_neg (by decide), if_pos rfl, fr2_ok a1 a2 a3 a4 a5 a6 a7 a8])
  fdiv := fun a1 a2 a3 a4 a5 a6 a7 a8 => gU_hkU rfl (by unfold gU; rw [if_neg (by decide), if_neg (by decide), if_pos rfl, fr2_ok a1 a2 a3 a4 a5 a6 a7 a8])
  floor := fun a1 a2 a3 a4 => gU_hkU rfl (by unfold gU; rw [if_neg (by decide), if_neg (by decide), if_neg (by decide), if_pos rfl, fr1_ok a1 a2 a3 a4])
  ftext := fun a1 a2 a3 a4 a5 => gU_hkU rfl (by unfold gU; rw [if_neg (by decide), if_neg (by decide), if_neg (by decide), if_neg (by decide), if_pos rfl, if_pos a5, fr1_ok a1 a2 a3 a4])
  get := fun a1 => gU_hkU rfl (by unfold gU; rw [if_neg (by decide), if_neg (by decide), if_neg (by decide), if_neg (by decide), if_neg (by decide), if_pos rfl]; simp only; rw [if_pos a1])
  cutP := gU_hkU rfl (by unfold gU; rw [if_neg (by decide), if_neg (by decide), if_neg (by decide), if_neg (by decide), if_neg (by decide), if_neg (by decide), if_pos rfl])
  cut := fun a1 a2 => gU_hkU rfl (by unfold gU; rw [if_neg (by decide), if_neg (by decide), if_neg (by decide), if_neg (by decide), if_neg (by decide), if_neg (by decide), if_neg (by decide), if_pos rfl]; simp only; rw [if_pos (by rw [a1, blt_t a2]; rfl)]) }
end Go.Vk
set_option linter.unusedSimpArgs false
set_option linter.unusedVariables false
set_option maxRecDepth 100000
set_option maxHeartbeats 4000000
namespace Go.Vk
open Go.Proofs (Tryz.prog)
theorem szF_div {n g : Nat} (h : szF n) : szF (n / g) := by
  unfold szF at *
  by_cases h0 : n / g = 0
  · rw [h0]; decide
  · have h1 := Nat.lt_log2_self (n := n)
    have : n / g < 2 ^ (Nat.log2 n + 1) := Nat.lt_of_le_of_lt (Nat.div_le_self _ _) h1
    have := (Nat.log2_lt h0).2 this
    omega
def subF (s : Bool) (n d : Nat) (t : Bool) (m e : Nat) : Opq := addF s n d (!t && !(Nat.beq m 0)) m e
theorem fn_fsub : fnE Tryz.prog 46 = some ⟨(Go.Proofs.Tryz.f46.body).getD .skip, 9, [.tmp 4]⟩ := by kernel_rfl
theorem fsub_run {hk : Hooks} (B : FrHk4 hk) (hn : ∀ a h, hk 46 a h = none) {h : Hp} {v w : AV} {s t : Bool} {n d m e : Nat} (hv : frV v = some (s, n, d)) (hw : frV w = some (t, m, e))
    (sn : szF n) (sd : szF d) (sm : szF m) (se : szF e) (hd : 0 < d) (he : 0 < e) :
    ExF Tryz.prog hk 46 [v, w] h fun r' h1 => r' = .opq (subF s n d t m e) ∧ h1.m = h.m := by
  refine ExF.body fn_fsub (hn _ _) (by simp) ?_
  simp only [Go.Proofs.Tryz.f46, Option.getD_some]
  have c1 : ∀ k nx, callF Tryz.prog hk k 64 [w] ⟨h.m, nx⟩ = some (.opq (.frac (!t && !(Nat.beq m 0)) m e), ⟨h.m, nx⟩) := fun k nx => callF_hk (B.neg hw sm.ok)
  have c2 : ∀ k nx, callF Tryz.prog hk k 44 [v, .opq (.frac (!t && !(Nat.beq m 0)) m e)] ⟨h.m, nx⟩ = some (.opq (subF s n d t m e), ⟨h.m, nx⟩) := fun k nx => callF_hk (B.fadd hv rfl sn sd sm se hd he)
  (repeat refine Ex.assoc ?_); refine Ex.step (m := 0) (by simp (config := {decide := true}) only [RS, Nat.reduceAdd]; rfl) ?_
  refine Ex.forget fun E hE => ?_; have k0 := hE 0; simp (config := {decide := true}) only [RS, Nat.reduceAdd] at k0; have k1 := hE 1; simp (config := {decide := true}) only [RS, Nat.reduceAdd] at k1; clear hE; have g0 := k0; clear k0; have g1 := k1; clear k1
  (repeat refine Ex.assoc ?_); refine Ex.step (m := 0) (by simp (config := {decide := true}) only [RS, Nat.reduceAdd, g0, g1, fn_neg, c1, fn_fadd, c2]; rfl) ?_
  refine Ex.ret ⟨trivial, _, by simp (config := {decide := true}) only [RS, Nat.reduceAdd]; rfl, ?_, rfl⟩
  simp (config := {decide := true}) only [RS, Nat.reduceAdd]
theorem addF_is {s t : Bool} {n d m e : Nat} (sn : szF n) (sd : szF d) (sm : szF m) (se : szF e) : ∃ s' n' d', addF s n d t m e = .frac s' n' d' ∧ szOk n' ∧ szOk d' := by
  unfold addF
  split
  · exact ⟨_, _, _, rfl, szOk_div sm.ok, szOk_div se.ok⟩
  · exact ⟨_, _, _, rfl, szOk_div (sgnN_sz (szF_mul sn se) (szF_mul sm sd)), szOk_div (szOk_mul sd se)⟩
def signO : Opq → Int
  | .frac s n _ => sgI s n
  | _ => 0
theorem fn_fcmp : fnE Tryz.prog 82 = some ⟨(Go.Proofs.Tryz.f82.body).getD .skip, 9, [.tmp 4]⟩ := by kernel_rfl
theorem fcmp_run {hk : Hooks} (B : FrHk4 hk) (hn : ∀ a h, hk 82 a h = none) (hs : ∀ a h, hk 46 a h = none) {h : Hp} {v w : AV} {s t : Bool} {n d m e : Nat} (hv : frV v = some (s, n, d)) (hw : frV w = some (t, m, e))
    (sn : szF n) (sd : szF d) (sm : szF m) (se : szF e) (hd : 0 < d) (he : 0 < e) :
    ExF Tryz.prog hk 82 [v, w] h fun r' h1 => r' = .int .i64 (signO (subF s n d t m e)) ∧ h1.m = h.m := by
  refine ExF.body fn_fcmp (hn _ _) (by simp) ?_
  simp only [Go.Proofs.Tryz.f82, Option.getD_some]
  obtain ⟨s', n', d', e1, z1, z2⟩ := addF_is (s := s) (t := !t && !(Nat.beq m 0)) sn sd sm se
  have e2 : subF s n d t m e = .frac s' n' d' := e1
  rw [e2]
  (repeat refine Ex.assoc ?_); refine Ex.step (m := 0) (by simp (config := {decide := true}) only [RS, Nat.reduceAdd]; rfl) ?_
  refine Ex.forget fun E hE => ?_; have k0 := hE 0; simp (config := {decide := true}) only [RS, Nat.reduceAdd] at k0; have k1 := hE 1; simp (config := {decide := true}) only [RS, Nat.reduceAdd] at k1; clear hE; have g0 := k0; clear k0; have g1 := k1; clear k1
  obtain ⟨m1, N1, x1, q1⟩ := ExF.same B.grow (fsub_run B hs (h := ⟨h.m, h.nx + 1 + 5⟩) hv hw sn sd sm se hd he)
  have q1' := q1 m1 (Nat.le_refl _)
  rw [e2] at q1'
  have c2 : ∀ k nx, callF Tryz.prog hk k 42 [.opq (.frac s' n' d')] ⟨h.m, nx⟩ = some (.int .i64 (sgI s' n'), ⟨h.m, nx⟩) := fun k nx => callF_hk (B.sign rfl z1)
  (repeat refine Ex.assoc ?_); refine Ex.step (m := m1) (by simp (config := {decide := true}) only [RS, Nat.reduceAdd, g0, g1, fn_fsub, q1', fn_sign, c2]; rfl) ?_
  refine Ex.ret ⟨trivial, _, by simp (config := {decide := true}) only [RS, Nat.reduceAdd]; rfl, ?_, rfl⟩
  simp (config := {decide := true}) only [RS, Nat.reduceAdd]
  rfl
/-! ### fractions read -/
theorem strB_take {s : List Nat} {k : Nat} (h : strB s = true) : strB (s.take k) = true := by
  rw [strB_iff] at h ⊢
  refine ⟨?_, by rw [List.length_take]; omega⟩
  rw [List.all_eq_true] at *
  exact fun x hx => h.1 x (List.mem_of_mem_take hx)
theorem strB_drop {s : List Nat} {k : Nat} (h : strB s = true) : strB (s.drop k) = true := by
  rw [strB_iff] at h ⊢
  refine ⟨?_, by rw [List.length_drop]; omega⟩
  have h1 := h.1
  rw [List.all_eq_true] at *
  exact fun x hx => h1 x (List.mem_of_mem_drop hx)
theorem getBad_szF {s : List Nat} (h : getBad s = false) : szF (tv 0 s) := by
  have hd : s.all isDig = true := by
    cases hx : s.all isDig with
    | true => rfl
    | false => unfold getBad at h; rw [hx] at h; simp at h
  have hl : s.length ≤ 2000 := by
    by_cases hx : 2000 < s.length
    · unfold getBad at h; rw [blt_t hx] at h; simp at h
    · omega
  have h1 := tv_lt s hd
  have h2 : 10 ^ s.length ≤ 2 ^ (4 * s.length) := by rw [Nat.pow_mul]; exact Nat.pow_le_pow_left (by omega) _
  unfold szF
  by_cases h0 : tv 0 s = 0
  · rw [h0]; decide
  · have := (Nat.log2_lt h0).2 (Nat.lt_of_lt_of_le h1 h2)
    omega
def topF (t : List Nat) : List Nat := if idxF t 47 0 = -1 then t else t.take (idxF t 47 0).toNat
def belowF (t : List Nat) : List Nat := if idxF t 47 0 = -1 then [49] else t.drop ((idxF t 47 0).toNat + 1)
def restF (s : List Nat) : List Nat := if hasP s [45] = true then s.drop 1 else s
def badF (s : List Nat) : Bool := getBad (topF (restF s)) || getBad (belowF (restF s)) || Nat.beq (tv 0 (belowF (restF s))) 0
def frN (s : List Nat) : Nat := tv 0 (topF (restF s)) / Nat.gcd (tv 0 (topF (restF s))) (tv 0 (belowF (restF s)))
def frD (s : List Nat) : Nat := tv 0 (belowF (restF s)) / Nat.gcd (tv 0 (topF (restF s))) (tv 0 (belowF (restF s)))
def frS (s : List Nat) : Bool := mkS (hasP s [45]) (tv 0 (topF (restF s))) (tv 0 (belowF (restF s)))
/-- What a text tells. -/
def getF (s : List Nat) : AV := if (badF s || !(txtF (frS s) (frN s) (frD s) == s)) = true then .tup [.nilp, .bool false] else .tup [.opq (.frac (frS s) (frN s) (frD s)), .bool true]
theorem fn_fget : fnE Tryz.prog 41 = some ⟨(Go.Proofs.Tryz.f41.body).getD .skip, 56, [.tmp 2, .tmp 3]⟩ := by kernel_rfl
theorem fget_run {hk : Hooks} (B : FrHk4 hk) (hn : ∀ a h, hk 41 a h = none) {h : Hp} (hp : hasPow h = true) {s : List Nat} (hs : strB s = true) :
    ExF Tryz.prog hk 41 [.str s] h fun r' h1 => r' = getF s ∧ h1.m = h.m := by
  refine ExF.body fn_fget (hn _ _) (by simp) ?_
  simp only [Go.Proofs.Tryz.f41, Option.getD_some]
  have e1 : cutPr s [45] = .tup [.str (restF s), .bool (hasP s [45])] := by
    unfold cutPr restF
    cases hasP s [45] <;> rfl
  have sR : strB (restF s) = true := by unfold restF; split; exact strB_drop hs; exact hs
  obtain ⟨t, ht⟩ : ∃ t, t = restF s := ⟨_, rfl⟩
  rw [← ht] at e1 sR
  have e2 : ∃ b f, cutA t 47 = .tup [.str (topF t), .str b, .bool f] ∧ (f = true → b = belowF t) ∧ (f = false → belowF t = [49]) := by
    unfold cutA topF belowF
    split
    · exact ⟨_, _, rfl, by simp, by simp⟩
    · exact ⟨_, _, rfl, by simp, by simp⟩
  obtain ⟨b, f, e2, e3, e4⟩ := e2
  have sT : strB (topF t) = true := by unfold topF; split; exact sR; exact strB_take sR
  have sB : strB (belowF t) = true := by unfold belowF; split; rfl; exact strB_drop sR
  have c1 : ∀ k nx, callF Tryz.prog hk k 86 [.str s, .str [45]] ⟨h.m, nx⟩ = some (.tup [.str t, .bool (hasP s [45])], ⟨h.m, nx⟩) := fun k nx => by rw [← e1]; exact callF_hk B.cutP
  have c2 : ∀ k nx, callF Tryz.prog hk k 87 [.str t, .str [47]] ⟨h.m, nx⟩ = some (.tup [.str (topF t), .str b, .bool f], ⟨h.m, nx⟩) := fun k nx => by rw [← e2]; exact callF_hk (B.cut sR (by omega))
  (repeat refine Ex.assoc ?_); refine Ex.step (m := 0) (by simp (config := {decide := true}) only [RS, Nat.reduceAdd]; rfl) ?_
  refine Ex.forget fun E hE => ?_; have k0 := hE 0; simp (config := {decide := true}) only [RS, Nat.reduceAdd] at k0; clear hE; have g0 := k0; clear k0
  (repeat refine Ex.assoc ?_); refine Ex.step (m := 0) (by simp (config := {decide := true}) only [RS, Nat.reduceAdd, g0, bytes_minus, fn_cutP, c1]; rfl) ?_
  refine Ex.forget fun E hE => ?_; have k0 := hE 0; simp (config := {decide := true}) only [RS, Nat.reduceAdd, g0] at k0; have k4 := hE 4; simp (config := {decide := true}) only [RS, Nat.reduceAdd, g0] at k4; have k5 := hE 5; simp (config := {decide := true}) only [RS, Nat.reduceAdd, g0] at k5; clear hE g0; have g0 := k0; clear k0; have g4 := k4; clear k4; have g5 := k5; clear k5
  (repeat refine Ex.assoc ?_); refine Ex.step (m := 0) (by simp (config := {decide := true}) only [RS, Nat.reduceAdd, g4, bytes_slash, fn_cut, c2]; rfl) ?_
  refine Ex.forget fun E hE => ?_; have k0 := hE 0; simp (config := {decide := true}) only [RS, Nat.reduceAdd, g0, g4, g5] at k0; have k5 := hE 5; simp (config := {decide := true}) only [RS, Nat.reduceAdd, g0, g4, g5] at k5; have k6 := hE 6; simp (config := {decide := true}) only [RS, Nat.reduceAdd, g0, g4, g5] at k6; have k7 := hE 7; simp (config := {decide := true}) only [RS, Nat.reduceAdd, g0, g4, g5] at k7; have k8 := hE 8; simp (config := {decide := true}) only [RS, Nat.reduceAdd, g0, g4, g5] at k8; clear hE g0 g4 g5; have g0 := k0; clear k0; have g5 := k5; clear k5; have g6 := k6; clear k6; have g7 := k7; clear k7; have g8 := k8; clear k8
  (repeat refine Ex.assoc ?_); refine Ex.step (m := 0) (by simp (config := {decide := true}) only [RS, Nat.reduceAdd, g8]; rfl) ?_
  refine Ex.forget fun E hE => ?_; have k0 := hE 0; simp (config := {decide := true}) only [RS, Nat.reduceAdd, g0, g5, g6, g7, g8] at k0; have k5 := hE 5; simp (config := {decide := true}) only [RS, Nat.reduceAdd, g0, g5, g6, g7, g8] at k5; have k6 := hE 6; simp (config := {decide := true}) only [RS, Nat.reduceAdd, g0, g5, g6, g7, g8] at k6; have k7 := hE 7; simp (config := {decide := true}) only [RS, Nat.reduceAdd, g0, g5, g6, g7, g8] at k7; have k26 := hE 26; simp (config := {decide := true}) only [RS, Nat.reduceAdd, g0, g5, g6, g7, g8] at k26; clear hE g0 g5 g6 g7 g8; have g0 := k0; clear k0; have g5 := k5; clear k5; have g6 := k6; clear k6; have g7 := k7; clear k7; have g26 := k26; clear k26
  (repeat refine Ex.assoc ?_)
  refine Ex.cut (fun env h' => env.get 0 = some (.str s) ∧ env.get 5 = some (.bool (hasP s [45])) ∧ env.get 6 = some (.str (topF t)) ∧ env.get 7 = some (.str (belowF t)) ∧ h'.m = h.m) ?_ ?_
  · cases f with
    | true =>
      refine Ex.cond_false (by simp (config := {decide := true}) only [RS, Nat.reduceAdd, g26] <;> rfl) (Ex.skip ?_)
      simp (config := {decide := true}) only [thenK, blockK, ite_true, ite_false, if_true, if_false]
      exact ⟨g0, g5, g6, by rw [g7, e3 rfl], by trivial⟩
    | false =>
      refine Ex.cond_true (by simp (config := {decide := true}) only [RS, Nat.reduceAdd, g26] <;> rfl) ?_
      refine Ex.last (m := 0) (by simp (config := {decide := true}) only [RS, Nat.reduceAdd, bytes_1]; rfl) ?_
      simp (config := {decide := true}) only [thenK, blockK, ite_true, ite_false, if_true, if_false]
      exact ⟨by simp (config := {decide := true}) only [RS, Nat.reduceAdd, g0], by simp (config := {decide := true}) only [RS, Nat.reduceAdd, g5], by simp (config := {decide := true}) only [RS, Nat.reduceAdd, g6], by simp (config := {decide := true}) only [RS, Nat.reduceAdd, e4 rfl], by trivial⟩
  clear g0 g5 g6 g7 g26
  rintro env ⟨M0, N0⟩ ⟨g0, g5, g6, g7, e5⟩
  dsimp only at e5
  subst e5
  obtain ⟨tp, htp⟩ : ∃ x, x = topF t := ⟨_, rfl⟩
  obtain ⟨bl, hbl⟩ : ∃ x, x = belowF t := ⟨_, rfl⟩
  rw [← htp] at g6 sT
  rw [← hbl] at g7 sB
  have hbad : badF s = (getBad tp || getBad bl || Nat.beq (tv 0 bl) 0) := by unfold badF; rw [← ht, ← htp, ← hbl]
  have c3 : ∀ k nx, callF Tryz.prog hk k 88 [.str tp] ⟨h.m, nx⟩ = some (.tup [if getBad tp = true then .nilp else .opq (.nat (tv 0 tp)), .bool (!getBad tp)], ⟨h.m, nx⟩) := fun k nx => by
    rw [callF_hk (B.get sT)]
    unfold getR
    cases getBad tp <;> rfl
  have c4 : ∀ k nx, callF Tryz.prog hk k 88 [.str bl] ⟨h.m, nx⟩ = some (.tup [if getBad bl = true then .nilp else .opq (.nat (tv 0 bl)), .bool (!getBad bl)], ⟨h.m, nx⟩) := fun k nx => by
    rw [callF_hk (B.get sB)]
    unfold getR
    cases getBad bl <;> rfl
  (repeat refine Ex.assoc ?_); refine Ex.step (m := 0) (by simp (config := {decide := true}) only [RS, Nat.reduceAdd, g6, fn_get, c3]; rfl) ?_
  refine Ex.forget fun E hE => ?_; have k0 := hE 0; simp (config := {decide := true}) only [RS, Nat.reduceAdd, g0, g5, g6, g7] at k0; have k5 := hE 5; simp (config := {decide := true}) only [RS, Nat.reduceAdd, g0, g5, g6, g7] at k5; have k7 := hE 7; simp (config := {decide := true}) only [RS, Nat.reduceAdd, g0, g5, g6, g7] at k7; have k9 := hE 9; simp (config := {decide := true}) only [RS, Nat.reduceAdd, g0, g5, g6, g7] at k9; have k10 := hE 10; simp (config := {decide := true}) only [RS, Nat.reduceAdd, g0, g5, g6, g7] at k10; clear hE g0 g5 g6 g7; have g0 := k0; clear k0; have g5 := k5; clear k5; have g7 := k7; clear k7; have g9 := k9; clear k9; have g10 := k10; clear k10
  (repeat refine Ex.assoc ?_); refine Ex.step (m := 0) (by simp (config := {decide := true}) only [RS, Nat.reduceAdd, g7, fn_get, c4]; rfl) ?_
  refine Ex.forget fun E hE => ?_; have k0 := hE 0; simp (config := {decide := true}) only [RS, Nat.reduceAdd, g0, g5, g7, g9, g10] at k0; have k5 := hE 5; simp (config := {decide := true}) only [RS, Nat.reduceAdd, g0, g5, g7, g9, g10] at k5; have k9 := hE 9; simp (config := {decide := true}) only [RS, Nat.reduceAdd, g0, g5, g7, g9, g10] at k9; have k10 := hE 10; simp (config := {decide := true}) only [RS, Nat.reduceAdd, g0, g5, g7, g9, g10] at k10; have k11 := hE 11; simp (config := {decide := true}) only [RS, Nat.reduceAdd, g0, g5, g7, g9, g10] at k11; have k12 := hE 12; simp (config := {decide := true}) only [RS, Nat.reduceAdd, g0, g5, g7, g9, g10] at k12; clear hE g0 g5 g7 g9 g10; have g0 := k0; clear k0; have g5 := k5; clear k5; have g9 := k9; clear k9; have g10 := k10; clear k10; have g11 := k11; clear k11; have g12 := k12; clear k12
  cases b1 : getBad tp with
  | true =>
    rw [b1] at g10 hbad
    (repeat refine Ex.assoc ?_); refine Ex.step (m := 0) (by simp (config := {decide := true}) only [RS, Nat.reduceAdd, g10]; rfl) ?_
    refine Ex.forget fun E hE => ?_; have k46 := hE 46; simp (config := {decide := true}) only [RS, Nat.reduceAdd, g0, g5, g9, g10, g11, g12] at k46; clear hE g0 g5 g9 g10 g11 g12; have g46 := k46; clear k46
    refine Ex.ifT (by simp (config := {decide := true}) only [RS, Nat.reduceAdd, g46] <;> rfl) ?_
    (repeat refine Ex.assoc ?_); refine Ex.step (m := 0) (by simp (config := {decide := true}) only [RS, Nat.reduceAdd]; rfl) ?_
    refine Ex.retS ⟨trivial, _, by simp (config := {decide := true}) only [RS, Nat.reduceAdd]; rfl, ?_, rfl⟩
    unfold getF
    rw [hbad, if_pos (by simp)]
    rfl
  | false =>
    rw [b1] at g9 g10 hbad
    cases b2 : getBad bl with
    | true =>
      rw [b2] at g12 hbad
      (repeat refine Ex.assoc ?_); refine Ex.step (m := 0) (by simp (config := {decide := true}) only [RS, Nat.reduceAdd, g10, g12]; rfl) ?_
      refine Ex.forget fun E hE => ?_; have k46 := hE 46; simp (config := {decide := true}) only [RS, Nat.reduceAdd, g0, g5, g9, g10, g11, g12] at k46; clear hE g0 g5 g9 g10 g11 g12; have g46 := k46; clear k46
      refine Ex.ifT (by simp (config := {decide := true}) only [RS, Nat.reduceAdd, g46] <;> rfl) ?_
      (repeat refine Ex.assoc ?_); refine Ex.step (m := 0) (by simp (config := {decide := true}) only [RS, Nat.reduceAdd]; rfl) ?_
      refine Ex.retS ⟨trivial, _, by simp (config := {decide := true}) only [RS, Nat.reduceAdd]; rfl, ?_, rfl⟩
      unfold getF
      rw [hbad, if_pos (by simp)]
      rfl
    | false =>
      rw [b2] at g11 g12 hbad
      rw [if_neg Bool.false_ne_true] at g9 g11
      have szN := getBad_szF b1
      have szD := getBad_szF b2
      have cz : ∀ k nx, callF Tryz.prog hk k 89 [.opq (.nat (tv 0 bl))] ⟨h.m, nx⟩ = some (.bool (Nat.beq (tv 0 bl) 0), ⟨h.m, nx⟩) := fun k nx => callF_hk (B.zero szD.ok)
      (repeat refine Ex.assoc ?_); refine Ex.step (m := 0) (by simp (config := {decide := true}) only [RS, Nat.reduceAdd, g10, g11, g12, fn_zero, cz]; rfl) ?_
      refine Ex.forget fun E hE => ?_; have k0 := hE 0; simp (config := {decide := true}) only [RS, Nat.reduceAdd, g0, g5, g9, g10, g11, g12] at k0; have k5 := hE 5; simp (config := {decide := true}) only [RS, Nat.reduceAdd, g0, g5, g9, g10, g11, g12] at k5; have k9 := hE 9; simp (config := {decide := true}) only [RS, Nat.reduceAdd, g0, g5, g9, g10, g11, g12] at k9; have k11 := hE 11; simp (config := {decide := true}) only [RS, Nat.reduceAdd, g0, g5, g9, g10, g11, g12] at k11; have k46 := hE 46; simp (config := {decide := true}) only [RS, Nat.reduceAdd, g0, g5, g9, g10, g11, g12] at k46; clear hE g0 g5 g9 g10 g11 g12; have g0 := k0; clear k0; have g5 := k5; clear k5; have g9 := k9; clear k9; have g11 := k11; clear k11; have g46 := k46; clear k46
      cases b3 : Nat.beq (tv 0 bl) 0 with
      | true =>
        rw [b3] at g46 hbad
        refine Ex.ifT (by simp (config := {decide := true}) only [RS, Nat.reduceAdd, g46] <;> rfl) ?_
        (repeat refine Ex.assoc ?_); refine Ex.step (m := 0) (by simp (config := {decide := true}) only [RS, Nat.reduceAdd]; rfl) ?_
        refine Ex.retS ⟨trivial, _, by simp (config := {decide := true}) only [RS, Nat.reduceAdd]; rfl, ?_, rfl⟩
        unfold getF
        rw [hbad, if_pos (by simp)]
        rfl
      | false =>
        rw [b3] at g46 hbad
        have hd0 : tv 0 bl ≠ 0 := fun e => by rw [e] at b3; cases b3
        refine Ex.ifF (by simp (config := {decide := true}) only [RS, Nat.reduceAdd, g46] <;> rfl) (Ex.skipS ?_)
        have hfr : mkF (hasP s [45]) (tv 0 tp) (tv 0 bl) = .frac (frS s) (frN s) (frD s) := by unfold mkF frS frN frD; rw [← ht, ← htp, ← hbl]
        have zn : szF (frN s) := by unfold frN; rw [← ht, ← htp]; exact szF_div szN
        have zd : szF (frD s) := by unfold frD; rw [← ht, ← hbl]; exact szF_div szD
        have hdp : 0 < frD s := by
          unfold frD; rw [← ht, ← hbl]
          exact Nat.div_pos (Nat.gcd_le_right _ (by omega)) (Nat.gcd_pos_of_pos_right _ (by omega))
        have c5 : ∀ k nx, callF Tryz.prog hk k 90 [.bool (hasP s [45]), .opq (.nat (tv 0 tp)), .opq (.nat (tv 0 bl))] ⟨h.m, nx⟩ = some (.opq (.frac (frS s) (frN s) (frD s)), ⟨h.m, nx⟩) := fun k nx => by rw [← hfr]; exact callF_hk (B.sure szN.ok szD.ok hd0)
        have c6 : ∀ k nx, callF Tryz.prog hk k 39 [.opq (.frac (frS s) (frN s) (frD s))] ⟨h.m, nx⟩ = some (.str (txtF (frS s) (frN s) (frD s)), ⟨h.m, nx⟩) := fun k nx => callF_hk (B.ftext rfl zn zd hdp hp)
        (repeat refine Ex.assoc ?_); refine Ex.step (m := 0) (by simp (config := {decide := true}) only [RS, Nat.reduceAdd, g5, g9, g11, fn_sure, c5]; rfl) ?_
        refine Ex.forget fun E hE => ?_; have k0 := hE 0; simp (config := {decide := true}) only [RS, Nat.reduceAdd, g0, g5, g9, g11, g46] at k0; have k13 := hE 13; simp (config := {decide := true}) only [RS, Nat.reduceAdd, g0, g5, g9, g11, g46] at k13; clear hE g0 g5 g9 g11 g46; have g0 := k0; clear k0; have g13 := k13; clear k13
        (repeat refine Ex.assoc ?_); refine Ex.step (m := 0) (by simp (config := {decide := true}) only [RS, Nat.reduceAdd, g0, g13, fn_ftext, c6, aStr]; rfl) ?_
        refine Ex.forget fun E hE => ?_; have k13 := hE 13; simp (config := {decide := true}) only [RS, Nat.reduceAdd, g0, g13] at k13; have k54 := hE 54; simp (config := {decide := true}) only [RS, Nat.reduceAdd, g0, g13] at k54; clear hE g0 g13; have g13 := k13; clear k13; have g54 := k54; clear k54
        cases b4 : (txtF (frS s) (frN s) (frD s) == s) with
        | true =>
          rw [b4] at g54
          refine Ex.ifF (by simp (config := {decide := true}) only [RS, Nat.reduceAdd, g54] <;> rfl) (Ex.skipS ?_)
          (repeat refine Ex.assoc ?_); refine Ex.step (m := 0) (by simp (config := {decide := true}) only [RS, Nat.reduceAdd, g13]; rfl) ?_
          refine Ex.ret ⟨trivial, _, by simp (config := {decide := true}) only [RS, Nat.reduceAdd]; rfl, ?_, rfl⟩
          unfold getF
          rw [hbad, b4, if_neg (by simp)]
          rfl
        | false =>
          rw [b4] at g54
          refine Ex.ifT (by simp (config := {decide := true}) only [RS, Nat.reduceAdd, g54] <;> rfl) ?_
          (repeat refine Ex.assoc ?_); refine Ex.step (m := 0) (by simp (config := {decide := true}) only [RS, Nat.reduceAdd]; rfl) ?_
          refine Ex.retS ⟨trivial, _, by simp (config := {decide := true}) only [RS, Nat.reduceAdd]; rfl, ?_, rfl⟩
          unfold getF
          rw [hbad, b4, if_pos (by simp)]
          rfl
end Go.Vk
set_option linter.unusedSimpArgs false
set_option linter.unusedVariables false
set_option maxRecDepth 100000
set_option maxHeartbeats 4000000
namespace Go.Vk
open Go.Proofs (Tryz.prog)
def gX : FuncId → List AV → Hp → Option AV := fun f args h =>
  if f = 46 then fr2 (fun s n d t m e => .opq (subF s n d t m e)) args
  else if f = 82 then fr2 (fun s n d t m e => .int .i64 (signO (subF s n d t m e))) args
  else if f = 41 then match args with
    | [.str s] => if (strB s && hasPow h) = true then some (getF s) else none
    | _ => none
  else none
theorem getF_free (s : List Nat) : (getF s).free = true := by unfold getF; split <;> rfl
theorem gX_ok : ∀ f args h r, gX f args h = some r → PureOK Tryz.prog f args h r := by
  intro f args h r hh
  unfold gX at hh
  split at hh
  · rename_i hf
    subst hf
    obtain ⟨v, w, s, n, d, t, m, e, rfl, hv, hw, k1, k2, k3, k4, k5, k6, rfl⟩ := fr2_some hh
    exact pure_free hkU_ok hkU_dom rfl fun hf => ExF.of_same (fsub_run frHkU (fun _ _ => rfl) hv hw k1 k2 k3 k4 k5 k6)
  split at hh
  · rename_i hf
    subst hf
    obtain ⟨v, w, s, n, d, t, m, e, rfl, hv, hw, k1, k2, k3, k4, k5, k6, rfl⟩ := fr2_some hh
    exact pure_free hkU_ok hkU_dom rfl fun hf => ExF.of_same (fcmp_run frHkU (fun _ _ => rfl) (fun _ _ => rfl) hv hw k1 k2 k3 k4 k5 k6)
  split at hh
  · rename_i hf
    subst hf
    split at hh
    · rename_i s
      split at hh
      · rename_i hs
        injection hh with hh; subst hh
        rw [Bool.and_eq_true] at hs
        exact pure_free hkU_ok hkU_dom (getF_free s) fun hf => ExF.of_same (fget_run frHkU (fun _ _ => rfl) hs.2 hs.1)
      · cases hh
    · cases hh
  cases hh
structure FrHk5 (hk : Hooks) : Prop extends FrHk4 hk where
  fsub : ∀ {h : Hp} {v w : AV} {s t : Bool} {n d m e : Nat}, frV v = some (s, n, d) → frV w = some (t, m, e) → szF n → szF d → szF m → szF e → 0 < d → 0 < e → hk 46 [v, w] h = some (.opq (subF s n d t m e), h)
  fcmp : ∀ {h : Hp} {v w : AV} {s t : Bool} {n d m e : Nat}, frV v = some (s, n, d) → frV w = some (t, m, e) → szF n → szF d → szF m → szF e → 0 < d → 0 < e → hk 82 [v, w] h = some (.int .i64 (signO (subF s n d t m e)), h)
  fget : ∀ {h : Hp} {s : List Nat}, strB s = true → hasPow h = true → hk 41 [.str s] h = some (getF s, h)
theorem FrHk5.sub {a b : Hooks} (S : Sub a b) (G : GrowOK b) (B : FrHk5 a) : FrHk5 b :=
  { B.toFrHk4.sub S G with
    fsub := fun a1 a2 a3 a4 a5 a6 a7 a8 => S _ _ _ _ (B.fsub a1 a2 a3 a4 a5 a6 a7 a8)
    fcmp := fun a1 a2 a3 a4 a5 a6 a7 a8 => S _ _ _ _ (B.fcmp a1 a2 a3 a4 a5 a6 a7 a8)
    fget := fun a1 a2 => S _ _ _ _ (B.fget a1 a2) }
abbrev hkX : Hooks := orHk hkU (pureHk gX)
theorem hkX_ok : CallOK Tryz.prog hkX := orHk_ok hkU_ok (pureHk_ok gX_ok)
theorem hkX_dom : DomOK hkX := orHk_dom hkU_dom pureHk_dom
theorem hkX_grow : GrowOK hkX := orHk_grow hkU_grow pureHk_grow
theorem gX_hkX {f : FuncId} {args : List AV} {h : Hp} {r : AV} (h0 : hkU f args h = none) (h1 : gX f args h = some r) : hkX f args h = some (r, h) :=
  (orHk_right h0).trans (pureHk_some h1)
theorem frHkX : FrHk5 hkX := { frHkU.sub Sub.left hkX_grow with
  fsub := fun a1 a2 a3 a4 a5 a6 a7 a8 => gX_hkX rfl (by unfold gX; rw [if_pos rfl, fr2_ok a1 a2 a3 a4 a5 a6 a7 a8])
  fcmp := fun a1 a2 a3 a4 a5 a6 a7 a8 => gX_hkX rfl (by unfold gX; rw [if_neg (by decide), if_pos rfl, fr2_ok a1 a2 a3 a4 a5 a6 a7 a8])
  fget := fun a1 a2 => gX_hkX rfl (by unfold gX; rw [if_neg (by decide), if_neg (by decide), if_pos rfl]; simp only; rw [if_pos (by rw [a1, a2]; rfl)]) }
end Go.Vk
set_option linter.unusedSimpArgs false
set_option linter.unusedVariables false
set_option maxRecDepth 100000
set_option maxHeartbeats 4000000
namespace Go.Vk
open Go.Proofs (Tryz.prog)
def gY : FuncId → List AV → Hp → Option AV := fun f args h =>
  if f = 243 then oneO (fun a => some (.int .i64 (tz a : Nat))) args
  else none
theorem gY_ok : ∀ f args h r, gY f args h = some r → PureOK Tryz.prog f args h r := by
  intro f args h r hh c vs hr hgl hv
  unfold gY at hh
  split at hh
  · rename_i hf
    subst hf
    obtain ⟨va, a, rfl, ha, hg⟩ := oneO_some hh
    injection hg with hg; subst hg
    obtain ⟨c2, h2, wa, da, ba, ho, p1, p2, p3, p4, rfl⟩ := open_oneO hr hv ha
    refine pure_of_run prog_mixed hkT_ok hkT_dom hr hgl ho p1 ?_
    obtain ⟨n, r', h1, q1, rfl, q2⟩ := twos_run bareTt.toBase (fun _ _ => rfl) (fun _ _ => rfl) (fun _ _ => rfl) p2 p3.1 (by omega)
    exact ⟨n, _, h1, q1, same_pure ho q2 rfl⟩
  cases hh
abbrev hkY : Hooks := orHk hkX (pureHk gY)
theorem hkY_ok : CallOK Tryz.prog hkY := orHk_ok hkX_ok (pureHk_ok gY_ok)
theorem hkY_dom : DomOK hkY := orHk_dom hkX_dom pureHk_dom
theorem hkY_grow : GrowOK hkY := orHk_grow hkX_grow pureHk_grow
theorem frHkY : FrHk5 hkY := frHkX.sub Sub.left hkY_grow
end Go.Vk
namespace Go.Proofs
open Go.Shelf
def Tryz.lays170_ren : Go.Shelf.Ren := ⟨fun | 170 => 188 | n => n, fun | 70 => 261 | 3 => 3 | 0 => 0 | 72 => 264 | 37 => 262 | 5 => 5 | n => n, fun | n => n⟩
theorem Tryz.lays170 : Go.Proofs.Lays.n170 Tryz.prog Tryz.lays170_ren := {
  mixed := by kernel_rfl
  f170 := Tryz.func188.trans (congrArg some (by kernel_rfl))
  t0 := Tryz.underlying0
  a0 := Tryz.isAgg0
  z0 := Tryz.sizeOf0
  v0 := Tryz.zeroValue0
  t3 := Tryz.underlying3
  a3 := Tryz.isAgg3
  z3 := Tryz.sizeOf3
  v3 := Tryz.zeroValue3
  t37 := Tryz.underlying262
  a37 := Tryz.isAgg262
  z37 := Tryz.sizeOf262
  v37 := Tryz.zeroValue262
  t70 := Tryz.underlying261
  a70 := Tryz.isAgg261
  z70 := Tryz.sizeOf261
  v70 := Tryz.zeroValue261
  t72 := Tryz.underlying264
  a72 := Tryz.isAgg264
  z72 := Tryz.sizeOf264
  v72 := Tryz.zeroValue264 }
open Go.RowKit in
/-- (*strings.Builder).Len: "Len returns the number of accumulated bytes; b.Len() == len(b.String()).": the world is as it was. (LAID: no walk: one application.) -/
theorem Tryz.Builder_Len (B b : Nat) (bs : List Value) (w : World) (h : Lib.IsBuilder 264 5 B b bs w) :
    Calls Tryz.prog 188 #[.pointer (some ⟨b, 0, none⟩)] w fun e w' => e = .returned (.int .i64 bs.length) ∧ w' = w := Any.Builder_Len Tryz.lays170 B b bs w h
def Tryz.lays169_ren : Go.Shelf.Ren := ⟨fun | 169 => 189 | n => n, fun | 70 => 261 | 9 => 9 | 0 => 0 | 72 => 264 | 37 => 262 | 127 => 351 | 3 => 3 | 5 => 5 | n => n, fun | n => n⟩
theorem Tryz.lays169 : Go.Proofs.Lays.n169 Tryz.prog Tryz.lays169_ren := {
  mixed := by kernel_rfl
  f169 := Tryz.func189.trans (congrArg some (by kernel_rfl))
  t0 := Tryz.underlying0
  a0 := Tryz.isAgg0
  z0 := Tryz.sizeOf0
  v0 := Tryz.zeroValue0
  t3 := Tryz.underlying3
  a3 := Tryz.isAgg3
  z3 := Tryz.sizeOf3
  v3 := Tryz.zeroValue3
  t9 := Tryz.underlying9
  a9 := Tryz.isAgg9
  z9 := Tryz.sizeOf9
  v9 := Tryz.zeroValue9
  t37 := Tryz.underlying262
  a37 := Tryz.isAgg262
  z37 := Tryz.sizeOf262
  v37 := Tryz.zeroValue262
  t70 := Tryz.underlying261
  a70 := Tryz.isAgg261
  z70 := Tryz.sizeOf261
  v70 := Tryz.zeroValue261
  t72 := Tryz.underlying264
  a72 := Tryz.isAgg264
  z72 := Tryz.sizeOf264
  v72 := Tryz.zeroValue264
  t127 := Tryz.underlying351
  a127 := Tryz.isAgg351
  z127 := Tryz.sizeOf351
  v127 := Tryz.zeroValue351 }
theorem Tryz.Builder_Extra_169 : Builder.Extra Tryz.prog Tryz.lays169_ren := {
  sizeBuilder := by kernel_rfl
  liesBuilder := by kernel_rfl
  t5 := Tryz.underlying5
  a5 := Tryz.isAgg5
  z5 := Tryz.sizeOf5
  v5 := Tryz.zeroValue5
  infoByte := by kernel_rfl
  cellsByte := by kernel_rfl
  sizeByte := by kernel_rfl
  neB5 := by decide }
open Go.RowKit in
/-- (*strings.Builder).String: "String returns the accumulated string.": OF A BUILDER THAT HOLDS AT LEAST ONE BYTE. ✋ THE MODEL FREEZES THOSE BYTES IN THE BUFFER (unsafe.String): a later write INTO them ends the model's run without an answer; a later append BEHIND them goes on. The statement's order of evaluation is drawn: one draw. (LAID: no walk: one application.) -/
theorem Tryz.Builder_String (B b : Nat) (l : List UInt8) (w : World) (h : Lib.IsBuilder 264 5 B b (Lib.byteCells l) w) (h0 : l ≠ []) :
    Calls Tryz.prog 189 #[.pointer (some ⟨b, 0, none⟩)] w fun e w' => e = .returned (.string ⟨l.toArray⟩) ∧ Below B w w' := Any.Builder_String Tryz.lays169 Tryz.Builder_Extra_169 B b l w h h0
open Go.RowKit in
/-- (*strings.Builder).String OF A BUILDER THAT HOLDS NO BYTE: the empty string. (Its buffer is nil, or a row of which it has taken nothing yet; where that row has NO capacity the model lays one new block for unsafe.SliceData's 'some address'.) One draw. (LAID: no walk: one application.) -/
theorem Tryz.Builder_String_empty (B b : Nat) (w : World) (h : Lib.IsBuilder 264 5 B b [] w) (hBw : B ≤ w.heap.size) :
    Calls Tryz.prog 189 #[.pointer (some ⟨b, 0, none⟩)] w fun e w' => e = .returned (.string ⟨#[]⟩) ∧ Below B w w' := Any.Builder_String_empty Tryz.lays169 Tryz.Builder_Extra_169 B b w h hBw
open Go.RowKit in
/-- (*strings.Builder).String: "String returns the accumulated string.": WHATEVER THE BUILDER HOLDS. (LAID: no walk: one application.) -/
theorem Tryz.Builder_String_any (B b : Nat) (l : List UInt8) (w : World) (h : Lib.IsBuilder 264 5 B b (Lib.byteCells l) w) (hBw : B ≤ w.heap.size) :
    Calls Tryz.prog 189 #[.pointer (some ⟨b, 0, none⟩)] w fun e w' => e = .returned (.string ⟨l.toArray⟩) ∧ Below B w w' := Any.Builder_String_any Tryz.lays169 Tryz.Builder_Extra_169 B b l w h hBw
def Tryz.lays241_ren : Go.Shelf.Ren := ⟨fun | 241 => 261 | 277 => 335 | n => n, fun | 70 => 261 | 3 => 3 | 0 => 0 | 72 => 264 | 37 => 262 | 5 => 5 | n => n, fun | n => n⟩
theorem Tryz.lays241 : Go.Proofs.Lays.n241 Tryz.prog Tryz.lays241_ren := {
  mixed := by kernel_rfl
  f241 := Tryz.func261.trans (congrArg some (by kernel_rfl))
  f277 := Tryz.func335.trans (congrArg some (by kernel_rfl))
  t0 := Tryz.underlying0
  a0 := Tryz.isAgg0
  z0 := Tryz.sizeOf0
  v0 := Tryz.zeroValue0
  t3 := Tryz.underlying3
  a3 := Tryz.isAgg3
  z3 := Tryz.sizeOf3
  v3 := Tryz.zeroValue3
  t37 := Tryz.underlying262
  a37 := Tryz.isAgg262
  z37 := Tryz.sizeOf262
  v37 := Tryz.zeroValue262
  t70 := Tryz.underlying261
  a70 := Tryz.isAgg261
  z70 := Tryz.sizeOf261
  v70 := Tryz.zeroValue261
  t72 := Tryz.underlying264
  a72 := Tryz.isAgg264
  z72 := Tryz.sizeOf264
  v72 := Tryz.zeroValue264 }
theorem Tryz.Builder_Extra_241 : Builder.Extra Tryz.prog Tryz.lays241_ren := {
  sizeBuilder := by kernel_rfl
  liesBuilder := by kernel_rfl
  t5 := Tryz.underlying5
  a5 := Tryz.isAgg5
  z5 := Tryz.sizeOf5
  v5 := Tryz.zeroValue5
  infoByte := by kernel_rfl
  cellsByte := by kernel_rfl
  sizeByte := by kernel_rfl
  neB5 := by decide }
open Go.RowKit in
/-- (*strings.Builder).grow (no doc but "grow copies the buffer to a new, larger buffer so that there are at least n bytes of capacity beyond len(b.buf)."): AT A BUILDER WITHOUT A BUFFER: a new row of whatever bytes for its buffer, none of them its own yet. Three draws. (LAID: no walk: one application.) -/
theorem Tryz.Builder_grow_fresh (B b n : Nat) (w : World) (hB : B ≤ b) (hbk : w.heap[b]? = some (.cells #[.pointer (some ⟨b, 0, none⟩), .slice none 0 0] 264 (0, 0))) (hBw : B ≤ w.heap.size) (hn : n ≤ 281474976710656) :
    Calls Tryz.prog 261 #[.pointer (some ⟨b, 0, none⟩), .int .i64 n] w fun e w' => e = .returned (.tuple #[]) ∧ (Lib.BuilderAt 264 5 B b (.pointer (some ⟨b, 0, none⟩)) [] w' ∧ Below B w w') := Any.Builder_grow_fresh Tryz.lays241 Tryz.Builder_Extra_241 B b n w hB hbk hBw hn
def Tryz.lays165_ren : Go.Shelf.Ren := ⟨fun | 165 => 186 | 240 => 260 | 241 => 261 | 276 => 334 | 277 => 335 | n => n, fun | 70 => 261 | 3 => 3 | 0 => 0 | 4 => 4 | 9 => 9 | 20 => 20 | 72 => 264 | 37 => 262 | 164 => 399 | 5 => 5 | n => n, fun | n => n⟩
theorem Tryz.lays165 : Go.Proofs.Lays.n165 Tryz.prog Tryz.lays165_ren := {
  mixed := by kernel_rfl
  f165 := Tryz.func186.trans (congrArg some (by kernel_rfl))
  f240 := Tryz.func260.trans (congrArg some (by kernel_rfl))
  f241 := Tryz.func261.trans (congrArg some (by kernel_rfl))
  f276 := Tryz.func334.trans (congrArg some (by kernel_rfl))
  f277 := Tryz.func335.trans (congrArg some (by kernel_rfl))
  t0 := Tryz.underlying0
  a0 := Tryz.isAgg0
  z0 := Tryz.sizeOf0
  v0 := Tryz.zeroValue0
  t3 := Tryz.underlying3
  a3 := Tryz.isAgg3
  z3 := Tryz.sizeOf3
  v3 := Tryz.zeroValue3
  t4 := Tryz.underlying4
  a4 := Tryz.isAgg4
  z4 := Tryz.sizeOf4
  v4 := Tryz.zeroValue4
  t9 := Tryz.underlying9
  a9 := Tryz.isAgg9
  z9 := Tryz.sizeOf9
  v9 := Tryz.zeroValue9
  t20 := Tryz.underlying20
  a20 := Tryz.isAgg20
  z20 := Tryz.sizeOf20
  v20 := Tryz.zeroValue20
  t37 := Tryz.underlying262
  a37 := Tryz.isAgg262
  z37 := Tryz.sizeOf262
  v37 := Tryz.zeroValue262
  t70 := Tryz.underlying261
  a70 := Tryz.isAgg261
  z70 := Tryz.sizeOf261
  v70 := Tryz.zeroValue261
  t72 := Tryz.underlying264
  a72 := Tryz.isAgg264
  z72 := Tryz.sizeOf264
  v72 := Tryz.zeroValue264
  t164 := Tryz.underlying399
  a164 := Tryz.isAgg399
  z164 := Tryz.sizeOf399
  v164 := Tryz.zeroValue399 }
theorem Tryz.Builder_Extra_165 : Builder.Extra Tryz.prog Tryz.lays165_ren := {
  sizeBuilder := by kernel_rfl
  liesBuilder := by kernel_rfl
  t5 := Tryz.underlying5
  a5 := Tryz.isAgg5
  z5 := Tryz.sizeOf5
  v5 := Tryz.zeroValue5
  infoByte := by kernel_rfl
  cellsByte := by kernel_rfl
  sizeByte := by kernel_rfl
  neB5 := by decide }
open Go.RowKit in
/-- (*strings.Builder).Grow AT A BUILDER THAT HAS NOT BEEN WRITTEN ('var b strings.Builder; b.Grow(n)'): "Grow grows b's capacity, if necessary, to guarantee space for another n bytes.": it holds no byte behind it as before it. (LAID: no walk: one application.) -/
theorem Tryz.Builder_Grow_fresh (B b n : Nat) (w : World) (hB : B ≤ b) (hbk : w.heap[b]? = some (.cells #[.pointer none, .slice none 0 0] 264 (0, 0))) (hBw : B ≤ w.heap.size) (hn : n ≤ 281474976710656) :
    Calls Tryz.prog 186 #[.pointer (some ⟨b, 0, none⟩), .int .i64 n] w fun e w' => e = .returned (.tuple #[]) ∧ (Lib.BuilderAt 264 5 B b (.pointer (some ⟨b, 0, none⟩)) [] w' ∧ Below B w w') := Any.Builder_Grow_fresh Tryz.lays165 Tryz.Builder_Extra_165 B b n w hB hbk hBw hn
def Tryz.lays156_ren : Go.Shelf.Ren := ⟨fun | 156 => 230 | 165 => 186 | 166 => 187 | 169 => 189 | 240 => 260 | 241 => 261 | 276 => 334 | 277 => 335 | n => n, fun | 31 => 24 | 9 => 9 | 3 => 3 | 4 => 4 | 0 => 0 | 20 => 20 | 72 => 264 | 76 => 290 | 70 => 261 | 37 => 262 | 75 => 219 | 127 => 351 | 164 => 399 | 5 => 5 | 80 => 85 | n => n, fun | n => n⟩
theorem Tryz.lays156 : Go.Proofs.Lays.n156 Tryz.prog Tryz.lays156_ren := {
  mixed := by kernel_rfl
  f156 := Tryz.func230.trans (congrArg some (by kernel_rfl))
  f165 := Tryz.func186.trans (congrArg some (by kernel_rfl))
  f166 := Tryz.func187.trans (congrArg some (by kernel_rfl))
  f169 := Tryz.func189.trans (congrArg some (by kernel_rfl))
  f240 := Tryz.func260.trans (congrArg some (by kernel_rfl))
  f241 := Tryz.func261.trans (congrArg some (by kernel_rfl))
  f276 := Tryz.func334.trans (congrArg some (by kernel_rfl))
  f277 := Tryz.func335.trans (congrArg some (by kernel_rfl))
  t0 := Tryz.underlying0
  a0 := Tryz.isAgg0
  z0 := Tryz.sizeOf0
  v0 := Tryz.zeroValue0
  t3 := Tryz.underlying3
  a3 := Tryz.isAgg3
  z3 := Tryz.sizeOf3
  v3 := Tryz.zeroValue3
  t4 := Tryz.underlying4
  a4 := Tryz.isAgg4
  z4 := Tryz.sizeOf4
  v4 := Tryz.zeroValue4
  t9 := Tryz.underlying9
  a9 := Tryz.isAgg9
  z9 := Tryz.sizeOf9
  v9 := Tryz.zeroValue9
  t20 := Tryz.underlying20
  a20 := Tryz.isAgg20
  z20 := Tryz.sizeOf20
  v20 := Tryz.zeroValue20
  t31 := Tryz.underlying24
  a31 := Tryz.isAgg24
  z31 := Tryz.sizeOf24
  v31 := Tryz.zeroValue24
  t37 := Tryz.underlying262
  a37 := Tryz.isAgg262
  z37 := Tryz.sizeOf262
  v37 := Tryz.zeroValue262
  t70 := Tryz.underlying261
  a70 := Tryz.isAgg261
  z70 := Tryz.sizeOf261
  v70 := Tryz.zeroValue261
  t72 := Tryz.underlying264
  a72 := Tryz.isAgg264
  z72 := Tryz.sizeOf264
  v72 := Tryz.zeroValue264
  t75 := Tryz.underlying219
  a75 := Tryz.isAgg219
  z75 := Tryz.sizeOf219
  v75 := Tryz.zeroValue219
  t76 := Tryz.underlying290
  a76 := Tryz.isAgg290
  z76 := Tryz.sizeOf290
  v76 := Tryz.zeroValue290
  t127 := Tryz.underlying351
  a127 := Tryz.isAgg351
  z127 := Tryz.sizeOf351
  v127 := Tryz.zeroValue351
  t164 := Tryz.underlying399
  a164 := Tryz.isAgg399
  z164 := Tryz.sizeOf399
  v164 := Tryz.zeroValue399 }
theorem Tryz.Builder_Extra_156 : Builder.Extra Tryz.prog Tryz.lays156_ren := {
  sizeBuilder := by kernel_rfl
  liesBuilder := by kernel_rfl
  t5 := Tryz.underlying5
  a5 := Tryz.isAgg5
  z5 := Tryz.sizeOf5
  v5 := Tryz.zeroValue5
  infoByte := by kernel_rfl
  cellsByte := by kernel_rfl
  sizeByte := by kernel_rfl
  neB5 := by decide }
open Go.RowKit in
/-- No element: the empty string; the world is as it was. (Whatever the slice's address and capacity: a nil slice too.) (LAID: no walk: one application.) -/
theorem Tryz.strings_Join_none (a : Option Addr) (c : Nat) (sep : ByteArray) (w : World) :
    Calls Tryz.prog 230 #[.slice a 0 c, .string sep] w fun e w' => e = .returned (.string ⟨#[]⟩) ∧ w' = w := Any.strings_Join_none Tryz.lays156 Tryz.Builder_Extra_156 a c sep w
open Go.RowKit in
/-- strings.Join: "Join concatenates the elements of its first argument to create a single string. The separator string sep is placed between elements in the resulting string.": HOWEVER MANY ELEMENTS. Below the heap's end the world is as it was. (LAID: no walk: one application.) -/
theorem Tryz.strings_Join (bk o c : Nat) (xs : List ByteArray) (sep : ByteArray) (w : World) (hcells : ∀ (j : Nat) x, xs[j]? = some x → w.cell? ⟨bk, o + j, none⟩ = some (.string x)) (hbk : bk < w.heap.size) (hN : xs.length ≤ 140737488355328) (hcap : xs.length ≤ c) (hlen : (Lib.join (xs.map (·.data.toList)) sep.data.toList).length ≤ 140737488355328) :
    Calls Tryz.prog 230 #[.slice (some ⟨bk, o, none⟩) xs.length c, .string sep] w fun e w' => e = .returned (.string ⟨(Lib.join (xs.map (·.data.toList)) sep.data.toList).toArray⟩) ∧ Below w.heap.size w w' := Any.strings_Join Tryz.lays156 Tryz.Builder_Extra_156 bk o c xs sep w hcells hbk hN hcap hlen
def Tryz.lays119_ren : Go.Shelf.Ren := ⟨fun | 119 => 365 | n => n, fun | 21 => 21 | 4 => 4 | n => n, fun | n => n⟩
theorem Tryz.lays119 : Go.Proofs.Lays.n119 Tryz.prog Tryz.lays119_ren := {
  mixed := by kernel_rfl
  f119 := Tryz.func365.trans (congrArg some (by kernel_rfl))
  t4 := Tryz.underlying4
  a4 := Tryz.isAgg4
  z4 := Tryz.sizeOf4
  v4 := Tryz.zeroValue4
  t21 := Tryz.underlying21
  a21 := Tryz.isAgg21
  z21 := Tryz.sizeOf21
  v21 := Tryz.zeroValue21 }
/-- utf8.ValidRune: "ValidRune reports whether r can be legally encoded as UTF-8. Code points that are out of range or a surrogate half are illegal.": IT RETURNS 'Lib.validRune r'; the world is as it was. (LAID: no walk: one application.) -/
theorem Tryz.utf8_ValidRune (r : Int) (w : World) :
    Calls Tryz.prog 365 #[.int .i32 r] w fun e w' => e = .returned (.bool (Lib.validRune r)) ∧ w' = w := Any.utf8_ValidRune Tryz.lays119 r w
def Tryz.lays120_ren : Go.Shelf.Ren := ⟨fun | 120 => 340 | n => n, fun | 5 => 5 | 4 => 4 | n => n, fun | n => n⟩
theorem Tryz.lays120 : Go.Proofs.Lays.n120 Tryz.prog Tryz.lays120_ren := {
  mixed := by kernel_rfl
  f120 := Tryz.func340.trans (congrArg some (by kernel_rfl))
  t4 := Tryz.underlying4
  a4 := Tryz.isAgg4
  z4 := Tryz.sizeOf4
  v4 := Tryz.zeroValue4
  t5 := Tryz.underlying5
  a5 := Tryz.isAgg5
  z5 := Tryz.sizeOf5
  v5 := Tryz.zeroValue5 }
/-- utf8.RuneStart: "RuneStart reports whether the byte could be the first byte of an encoded, possibly invalid rune. Second and subsequent bytes always have the top two bits set to 10.": IT RETURNS 'Lib.runeStart b'; the world is as it was. ('h0', 'h1': b is a byte: a caller has it of every byte that it was handed.) (LAID: no walk: one application.) -/
theorem Tryz.utf8_RuneStart (b : Int) (w : World) (h0 : 0 ≤ b) (h1 : b < 256) :
    Calls Tryz.prog 340 #[.int .u8 b] w fun e w' => e = .returned (.bool (Lib.runeStart b)) ∧ w' = w := Any.utf8_RuneStart Tryz.lays120 b w h0 h1
def Tryz.lays137_ren : Go.Shelf.Ren := ⟨fun | 137 => 364 | 217 => 262 | 266 => 336 | n => n, fun | 9 => 9 | 5 => 5 | 3 => 3 | n => n, fun | n => n⟩
theorem Tryz.lays137 : Go.Proofs.Lays.n137 Tryz.prog Tryz.lays137_ren := {
  mixed := by kernel_rfl
  f137 := Tryz.func364.trans (congrArg some (by kernel_rfl))
  f217 := Tryz.func262.trans (congrArg some (by kernel_rfl))
  f266 := Tryz.func336.trans (congrArg some (by kernel_rfl))
  t3 := Tryz.underlying3
  a3 := Tryz.isAgg3
  z3 := Tryz.sizeOf3
  v3 := Tryz.zeroValue3
  t5 := Tryz.underlying5
  a5 := Tryz.isAgg5
  z5 := Tryz.sizeOf5
  v5 := Tryz.zeroValue5
  t9 := Tryz.underlying9
  a9 := Tryz.isAgg9
  z9 := Tryz.sizeOf9
  v9 := Tryz.zeroValue9 }
open Go.RowKit in
/-- strings.IndexByte: "IndexByte returns the index of the first instance of c in s, or -1 if c is not present in s.": IT RETURNS 'Lib.indexByte s c'; the world is as it was. (LAID: no walk: one application.) -/
theorem Tryz.strings_IndexByte (s : ByteArray) (c : Int) (w : World) :
    Calls Tryz.prog 364 #[.string s, .int .u8 c] w fun e w' => e = .returned (.int .i64 (Lib.indexByte s.data.toList c.toNat.toUInt8)) ∧ w' = w := Any.strings_IndexByte Tryz.lays137 s c w
def Tryz.lays217_ren : Go.Shelf.Ren := ⟨fun | 217 => 262 | 266 => 336 | n => n, fun | 9 => 9 | 5 => 5 | 3 => 3 | n => n, fun | n => n⟩
theorem Tryz.lays217 : Go.Proofs.Lays.n217 Tryz.prog Tryz.lays217_ren := {
  mixed := by kernel_rfl
  f217 := Tryz.func262.trans (congrArg some (by kernel_rfl))
  f266 := Tryz.func336.trans (congrArg some (by kernel_rfl))
  t3 := Tryz.underlying3
  a3 := Tryz.isAgg3
  z3 := Tryz.sizeOf3
  v3 := Tryz.zeroValue3
  t5 := Tryz.underlying5
  a5 := Tryz.isAgg5
  z5 := Tryz.sizeOf5
  v5 := Tryz.zeroValue5
  t9 := Tryz.underlying9
  a9 := Tryz.isAgg9
  z9 := Tryz.sizeOf9
  v9 := Tryz.zeroValue9 }
open Go.RowKit Go.Lib in
/-- internal/stringslite.IndexByte (what strings.IndexByte calls): IT RETURNS 'Lib.indexByte s c'; the world is as it was. (LAID: no walk: one application.) -/
theorem Tryz.stringslite_IndexByte (s : ByteArray) (c : Int) (w : World) :
    Calls Tryz.prog 262 #[.string s, .int .u8 c] w fun e w' => e = .returned (.int .i64 (Lib.indexByte s.data.toList c.toNat.toUInt8)) ∧ w' = w := Any.stringslite_IndexByte Tryz.lays217 s c w
def Tryz.lays224_ren : Go.Shelf.Ren := ⟨fun | 224 => 264 | n => n, fun | 3 => 3 | n => n, fun | n => n⟩
theorem Tryz.lays224 : Go.Proofs.Lays.n224 Tryz.prog Tryz.lays224_ren := {
  mixed := by kernel_rfl
  f224 := Tryz.func264.trans (congrArg some (by kernel_rfl))
  t3 := Tryz.underlying3
  a3 := Tryz.isAgg3
  z3 := Tryz.sizeOf3
  v3 := Tryz.zeroValue3 }
open Go.RowKit Go.Lib in
/-- internal/bytealg.Cutover: "Cutover reports the number of failures of IndexByte we should tolerate before switching over to Index. n is the number of bytes processed so far.": on amd64: (n + 16) / 8. (LAID: no walk: one application.) -/
theorem Tryz.bytealg_Cutover (n : Int) (h0 : 0 ≤ n) (h1 : n < 4611686018427387904) (w : World) :
    Calls Tryz.prog 264 #[.int .i64 n] w fun e w' => e = .returned (.int .i64 ((n + 16) / 8)) ∧ w' = w := Any.bytealg_Cutover Tryz.lays224 n h0 h1 w
def Tryz.lays314_ren : Go.Shelf.Ren := ⟨fun | 314 => 337 | n => n, fun | 9 => 9 | 51 => 169 | 3 => 3 | 4 => 4 | 5 => 5 | 46 => 170 | n => n, fun | n => n⟩
theorem Tryz.lays314 : Go.Proofs.Lays.n314 Tryz.prog Tryz.lays314_ren := {
  mixed := by kernel_rfl
  f314 := Tryz.func337.trans (congrArg some (by kernel_rfl))
  t3 := Tryz.underlying3
  a3 := Tryz.isAgg3
  z3 := Tryz.sizeOf3
  v3 := Tryz.zeroValue3
  t4 := Tryz.underlying4
  a4 := Tryz.isAgg4
  z4 := Tryz.sizeOf4
  v4 := Tryz.zeroValue4
  t5 := Tryz.underlying5
  a5 := Tryz.isAgg5
  z5 := Tryz.sizeOf5
  v5 := Tryz.zeroValue5
  t9 := Tryz.underlying9
  a9 := Tryz.isAgg9
  z9 := Tryz.sizeOf9
  v9 := Tryz.zeroValue9
  t46 := Tryz.underlying170
  a46 := Tryz.isAgg170
  z46 := Tryz.sizeOf170
  v46 := Tryz.zeroValue170
  t51 := Tryz.underlying169
  a51 := Tryz.isAgg169
  z51 := Tryz.sizeOf169
  v51 := Tryz.zeroValue169 }
open Go.RowKit Go.Lib in
/-- hashStr: "returns the hash and the appropriate multiplicative factor for use in Rabin-Karp algorithm": THE HASH OF ALL OF sep, AND 16777619 ^ len(sep), both in uint32. (LAID: no walk: one application.) -/
theorem Tryz.bytealg_hashStr (sep : ByteArray) (hs : sep.size < 4294967281) (w : World) :
    Calls Tryz.prog 337 #[.string sep] w fun e w' => e = .returned (.tuple #[.int .u32 (RK.H sep.data.toList % 4294967296), .int .u32 (16777619 ^ sep.size % 4294967296)]) ∧ w' = w := Any.bytealg_hashStr Tryz.lays314 sep hs w
def Tryz.lays267_ren : Go.Shelf.Ren := ⟨fun | 267 => 265 | 314 => 337 | n => n, fun | 9 => 9 | 3 => 3 | 146 => 349 | 51 => 169 | 4 => 4 | 5 => 5 | 46 => 170 | n => n, fun | n => n⟩
theorem Tryz.lays267 : Go.Proofs.Lays.n267 Tryz.prog Tryz.lays267_ren := {
  mixed := by kernel_rfl
  f267 := Tryz.func265.trans (congrArg some (by kernel_rfl))
  f314 := Tryz.func337.trans (congrArg some (by kernel_rfl))
  t3 := Tryz.underlying3
  a3 := Tryz.isAgg3
  z3 := Tryz.sizeOf3
  v3 := Tryz.zeroValue3
  t4 := Tryz.underlying4
  a4 := Tryz.isAgg4
  z4 := Tryz.sizeOf4
  v4 := Tryz.zeroValue4
  t5 := Tryz.underlying5
  a5 := Tryz.isAgg5
  z5 := Tryz.sizeOf5
  v5 := Tryz.zeroValue5
  t9 := Tryz.underlying9
  a9 := Tryz.isAgg9
  z9 := Tryz.sizeOf9
  v9 := Tryz.zeroValue9
  t46 := Tryz.underlying170
  a46 := Tryz.isAgg170
  z46 := Tryz.sizeOf170
  v46 := Tryz.zeroValue170
  t51 := Tryz.underlying169
  a51 := Tryz.isAgg169
  z51 := Tryz.sizeOf169
  v51 := Tryz.zeroValue169
  t146 := Tryz.underlying349
  a146 := Tryz.isAgg349
  z146 := Tryz.sizeOf349
  v146 := Tryz.zeroValue349 }
open Go.RowKit Go.Lib in
theorem Tryz.bytealg_IndexRabinKarp (s sep : ByteArray) (h1 : 1 ≤ sep.size) (h2 : sep.size ≤ s.size) (hs : s.size < 4294967281) (w : World) :
    Calls Tryz.prog 265 #[.string s, .string sep] w fun e w' => e = .returned (.int .i64 (Lib.index s.data.toList sep.data.toList)) ∧ w' = w := Any.bytealg_IndexRabinKarp Tryz.lays267 s sep h1 h2 hs w
end Go.Proofs
set_option linter.unusedSimpArgs false
set_option linter.unusedVariables false
set_option maxRecDepth 100000
set_option maxHeartbeats 4000000
namespace Go.Vk
open Go.Proofs (Tryz.prog)
def strsA : List AV → Option (List (List Nat))
  | [] => some []
  | .str s :: r => (strsA r).map (s :: ·)
  | _ => none
def joinN (xs : List (List Nat)) (sep : List Nat) : List Nat := sep.intercalate xs
theorem joinN_map (sep : List UInt8) : ∀ xs : List (List UInt8), joinN (xs.map (List.map (·.toNat))) (sep.map (·.toNat)) = (Lib.join xs sep).map (·.toNat)
  | [] => rfl
  | [x] => by simp [joinN, Lib.join, List.intercalate]
  | x :: y :: r => by
    have ih := joinN_map sep (y :: r)
    unfold joinN Lib.join List.intercalate at ih ⊢
    simp only [List.map_cons, List.intersperse_cons_cons, List.flatten_cons, List.map_append] at ih ⊢
    rw [← ih]
theorem strs_vals {c : Cx} : ∀ {cs : List AV} {ss : List (List Nat)} {vs : List Value}, strsA cs = some ss → VRL c cs vs → ∃ xs : List ByteArray, vs = xs.map .string ∧ xs.map bytesOf = ss
  | [], ss, vs, h, hv => by
    simp only [strsA] at h; injection h with h; subst h
    simp only [VRL] at hv; subst hv
    exact ⟨[], rfl, rfl⟩
  | .str s :: r, ss, vs, h, hv => by
    simp only [strsA] at h
    rw [Option.map_eq_some_iff] at h
    obtain ⟨t, h1, rfl⟩ := h
    simp only [VRL, VR] at hv
    obtain ⟨y, ys, rfl, ⟨x, rfl, hx⟩, h2⟩ := hv
    obtain ⟨xs, rfl, rfl⟩ := strs_vals h1 h2
    exact ⟨x :: xs, rfl, by rw [List.map_cons, hx]⟩
def joinA (h : Hp) (v : AV) : Option (List (List Nat)) := match v with
  | .slice b off len _ _ 1 => match getCells h b off len with
    | some cs => strsA cs
    | none => none
  | _ => none
def gJ : FuncId → List AV → Hp → Option AV := fun f args h =>
  if f = 230 then match args with
    | [v, .str sep] => match joinA h v with
      | some ss => if (Nat.ble ss.length 140737488355328 && Nat.ble (joinN ss sep).length 140737488355328) = true then some (.str (joinN ss sep)) else none
      | none => none
    | _ => none
  else none
theorem bytesOf_mk (l : List UInt8) : bytesOf ⟨l.toArray⟩ = l.map (·.toNat) := by simp [bytesOf]
theorem gJ_ok : ∀ f args h r, gJ f args h = some r → PureOK Tryz.prog f args h r := by
  intro f args h r hh
  unfold gJ at hh
  split at hh
  · rename_i hf
    subst hf
    split at hh
    · rename_i v sep
      split at hh
      · rename_i ss hs
        split at hh
        · rename_i hl
          rw [Bool.and_eq_true, Nat.ble_eq, Nat.ble_eq] at hl
          injection hh with hh; subst hh
          unfold joinA at hs
          split at hs
          · rename_i b off len cap ex
            split at hs
            · rename_i cs hg
              refine pure_below rfl fun c vs hr hgl hv => ?_
              simp only [VRL, VR] at hv
              obtain ⟨y, ys, e1, ⟨hD, m, rfl, hm1, hm2, hm3, hroom⟩, z, zs, rfl, ⟨sp, rfl, hsp⟩, rfl⟩ := hv
              obtain ⟨us, k1, k2, k3⟩ := cells_load hr hg
              obtain ⟨xs, rfl, rfl⟩ := strs_vals hs k1
              have hvs : vs = #[.slice (some ⟨(c.rho b).1, (c.rho b).2 + off, none⟩) xs.length m, .string sp] := by
                rw [List.length_map] at k2
                rw [k2]
                exact Array.ext' e1
              have hbk : (c.rho b).1 < c.w.heap.size := by
                obtain ⟨cs', e, fr, hk, _⟩ := hroom
                exact (Array.getElem?_eq_some_iff.1 hk).1
              have hjo : joinN (xs.map bytesOf) sep = (Lib.join (xs.map (·.data.toList)) sp.data.toList).map (·.toNat) := by
                rw [← joinN_map, ← hsp, List.map_map]
                rfl
              rw [List.length_map] at hl k2
              have hlen := hl.2
              rw [hjo, List.length_map] at hlen
              rw [hvs]
              refine (Go.Proofs.Tryz.strings_Join (c.rho b).1 ((c.rho b).2 + off) m xs sp c.w (fun j x hx => ?_) hbk hl.1 (by omega) hlen).mono ?_
              · exact k3 j _ (by rw [List.getElem?_map, hx]; rfl)
              · rintro e w' ⟨rfl, hB⟩
                refine ⟨_, rfl, hB, fun c' => ?_⟩
                simp only [VR]
                exact ⟨_, rfl, by rw [hjo, bytesOf_mk]⟩
            · cases hs
          · cases hs
        · cases hh
      · cases hh
    · cases hh
  · cases hh
abbrev hkJ : Hooks := orHk hkY (pureHk gJ)
theorem hkJ_ok : CallOK Tryz.prog hkJ := orHk_ok hkY_ok (pureHk_ok gJ_ok)
theorem hkJ_dom : DomOK hkJ := orHk_dom hkY_dom pureHk_dom
theorem hkJ_grow : GrowOK hkJ := orHk_grow hkY_grow pureHk_grow
theorem frHkJ : FrHk5 hkJ := frHkY.sub Sub.left hkJ_grow
end Go.Vk
set_option linter.unusedSimpArgs false
set_option linter.unusedVariables false
set_option maxRecDepth 1000000
set_option maxHeartbeats 4000000
namespace Go.Vk
open Go.Proofs (Tryz.prog)
def tab0 : Hp := ⟨(PT.leaf).set 1 (.row pow10L true), 1000⟩
def ma_r : AV := .tup [.agg [.str [84], .str [99, 111, 115, 116], .slice 10956 0 2 2 false 5, .slice 12714 0 2 2 false 5], .int .i64 (0), .int .i64 (0)]
def ma_nx : Nat := 15170
def ma_L : List (Nat × Blk) := [
  (10956, .row [.str [99, 97, 112], .int .i64 (1), .slice 11974 0 1 1 false 2, .str [49, 48], .str [], .str [110, 101, 101, 100], .int .i64 (3), .slice 13196 0 2 2 false 2, .str [52], .str []] false),
  (11974, .row [.int .i64 (0), .str [49]] false),
  (12714, .row [.str [120], .str [48], .str [56], .str [50], .bool false, .str [121], .str [48], .str [], .str [53], .bool false] false),
  (13196, .row [.int .i64 (0), .str [49], .int .i64 (1), .str [49]] false)
  ]
def ma_A : List AV := [.str [78, 65, 77, 69, 32, 84, 10, 82, 79, 87, 83, 10, 32, 78, 32, 99, 111, 115, 116, 10, 32, 76, 32, 99, 97, 112, 10, 32, 71, 32, 110, 101, 101, 100, 10, 67, 79, 76, 85, 77, 78, 83, 10, 32, 120, 32, 99, 111, 115, 116, 32, 50, 32, 99, 97, 112, 32, 49, 10, 32, 120, 32, 110, 101, 101, 100, 32, 49, 10, 32, 121, 32, 99, 111, 115, 116, 32, 53, 32, 110, 101, 101, 100, 32, 49, 10, 82, 72, 83, 10, 32, 82, 32, 99, 97, 112, 32, 49, 48, 32, 110, 101, 101, 100, 32, 52, 10, 66, 79, 85, 78, 68, 83, 10, 32, 85, 80, 32, 66, 32, 120, 32, 56, 10, 69, 78, 68, 65, 84, 65, 10]]
def mb_r : AV := .tup [.agg [.str [84], .str [99, 111, 115, 116], .slice 11382 0 2 2 false 5, .slice 13140 0 2 2 false 5], .int .i64 (0), .int .i64 (0)]
def mb_nx : Nat := 15858
def mb_L : List (Nat × Blk) := [
  (11382, .row [.str [99, 97, 112], .int .i64 (1), .slice 12400 0 1 1 false 2, .str [49, 48], .str [], .str [110, 101, 101, 100], .int .i64 (3), .slice 13622 0 2 2 false 2, .str [52], .str []] false),
  (12400, .row [.int .i64 (0), .str [49]] false),
  (13140, .row [.str [120], .str [48], .str [56], .str [50], .bool false, .str [121], .str [48], .str [], .str [53], .bool false] false),
  (13622, .row [.int .i64 (0), .str [49], .int .i64 (1), .str [49]] false)
  ]
def mb_A : List AV := [.str [78, 65, 77, 69, 32, 84, 10, 82, 79, 87, 83, 10, 32, 78, 32, 99, 111, 115, 116, 10, 32, 76, 32, 99, 97, 112, 10, 32, 71, 32, 110, 101, 101, 100, 10, 67, 79, 76, 85, 77, 78, 83, 10, 32, 120, 32, 99, 111, 115, 116, 32, 50, 32, 99, 97, 112, 32, 49, 10, 32, 120, 32, 110, 101, 101, 100, 32, 49, 10, 32, 121, 32, 99, 111, 115, 116, 32, 53, 32, 110, 101, 101, 100, 32, 49, 10, 82, 72, 83, 10, 32, 82, 32, 99, 97, 112, 32, 49, 48, 32, 110, 101, 101, 100, 32, 52, 10, 82, 65, 78, 71, 69, 83, 10, 66, 79, 85, 78, 68, 83, 10, 32, 85, 80, 32, 66, 32, 120, 32, 56, 10, 69, 78, 68, 65, 84, 65, 10]]
def mc_r : AV := .tup [.str [84], .slice 4652 0 2 2 false 3, .int .i64 (0), .int .i64 (0)]
def mc_nx : Nat := 4781
def mc_L : List (Nat × Blk) := [
  (4652, .row [.str [120], .str [99, 97, 112], .str [111, 110, 101], .str [121], .str [110, 101, 101, 100], .str [116, 119, 111]] false)
  ]
def mc_A : List AV := [.str [84, 73, 77, 69, 32, 84, 10, 80, 69, 82, 73, 79, 68, 83, 10, 32, 120, 32, 99, 97, 112, 32, 111, 110, 101, 10, 32, 121, 32, 110, 101, 101, 100, 32, 116, 119, 111, 10, 69, 78, 68, 65, 84, 65, 10]]
def md_r : AV := .tup [.str [84], .agg [.int .i64 (1), .slice 6594 0 1 1 false 2], .int .i64 (0), .int .i64 (0)]
def md_nx : Nat := 8671
def md_L : List (Nat × Blk) := [
  (6013, .row [.str [], .str [110, 101, 101, 100], .str [52]] false),
  (6594, .row [.str [], .slice 7646 0 2 2 false 2] false),
  (7034, .row [.str [], .str [110, 101, 101, 100], .str [49, 50]] false),
  (7646, .row [.str [49, 47, 50], .slice 6013 0 1 1 true 3, .str [49, 47, 50], .slice 7034 0 1 1 true 3] false)
  ]
def md_A : List AV := [.str [83, 84, 79, 67, 72, 32, 84, 10, 73, 78, 68, 69, 80, 32, 68, 73, 83, 67, 82, 69, 84, 69, 10, 32, 82, 72, 83, 32, 110, 101, 101, 100, 32, 52, 32, 116, 119, 111, 32, 48, 46, 53, 10, 32, 82, 72, 83, 32, 110, 101, 101, 100, 32, 49, 50, 32, 116, 119, 111, 32, 48, 46, 53, 10, 69, 78, 68, 65, 84, 65, 10]]
def me_r : AV := .tup [.slice 1699 0 2 2 false 3, .int .i64 (0), .int .i64 (0)]
def me_nx : Nat := 1710
def me_L : List (Nat × Blk) := [
  (1298, .row [.str [97], .str [98]] false),
  (1651, .row [.str [72, 69, 65, 68]] false),
  (1699, .row [.int .i64 (1), .bool false, .slice 1298 0 2 2 true 1, .int .i64 (2), .bool true, .slice 1651 0 1 1 true 1] false)
  ]
def me_A : List AV := [.str [32, 97, 32, 98, 10, 72, 69, 65, 68, 10]]
end Go.Vk
