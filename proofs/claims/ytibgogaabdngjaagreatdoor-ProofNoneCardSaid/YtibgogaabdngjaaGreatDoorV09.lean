/- Part of a proof. Decimal texts read: strconv.ParseUint on few digits. strings.Trim of digits; strconv.ParseUint. Hooks of nat: Bits, Gcd, Div, Text; of texts: Trim, ParseUint. Hooks of nat: Bits, Gcd, Div, Text; of texts: Trim, ParseUint: that they hold. The numbers' hooks in one; what is used of them. Numbers read: nat.Get. Fractions: opened and closed; their parts; New. -/
import Derived.Test.YtibgogaabdngjaaGreatDoorV08
set_option linter.unusedSimpArgs false
set_option linter.unusedVariables false
set_option maxRecDepth 100000
set_option maxHeartbeats 4000000
namespace Go.Vk
open Go.Proofs (Tryz.prog)
@[irreducible] def dg (c : Nat) : Nat := c - 48
theorem dg_eq (c : Nat) : dg c = c - 48 := by unfold dg; rfl
def tv (a : Nat) : List Nat → Nat
  | [] => a
  | c :: r => tv (a * 10 + dg c) r
theorem tv_nil (a : Nat) : tv a [] = a := rfl
theorem tv_cons (a c : Nat) (r : List Nat) : tv a (c :: r) = tv (a * 10 + dg c) r := rfl
theorem tv_app (a : Nat) (s t : List Nat) : tv a (s ++ t) = tv (tv a s) t := by
  induction s generalizing a with
  | nil => rfl
  | cons c s ih => rw [List.cons_append, tv_cons, tv_cons]; exact ih _
theorem tv_acc (a : Nat) (s : List Nat) : tv a s = a * 10 ^ s.length + tv 0 s := by
  induction s generalizing a with
  | nil => simp [tv_nil]
  | cons c s ih =>
    rw [tv_cons, tv_cons, ih, ih (0 * 10 + dg c), List.length_cons, Nat.pow_succ]
    rw [Nat.add_mul, Nat.zero_mul, Nat.zero_add, ← Nat.add_assoc]
    congr 2
    rw [Nat.mul_assoc, Nat.mul_comm 10]
def isDig (c : Nat) : Bool := Nat.ble 48 c && Nat.ble c 57
theorem isDig_iff {c : Nat} : isDig c = true ↔ 48 ≤ c ∧ c ≤ 57 := by
  unfold isDig
  rw [Bool.and_eq_true]
  exact ⟨fun h => ⟨Nat.le_of_ble_eq_true h.1, Nat.le_of_ble_eq_true h.2⟩, fun h => ⟨Nat.ble_eq_true_of_le h.1, Nat.ble_eq_true_of_le h.2⟩⟩
theorem tv_lt (s : List Nat) (h : s.all isDig = true) : tv 0 s < 10 ^ s.length := by
  induction s with
  | nil => simp [tv_nil]
  | cons c s ih =>
    rw [List.all_cons, Bool.and_eq_true] at h
    have h1 := ih h.2
    have h2 := isDig_iff.1 h.1
    have h3 := dg_eq c
    rw [tv_cons, tv_acc, List.length_cons, Nat.pow_succ]
    have : (0 * 10 + dg c) * 10 ^ s.length ≤ 9 * 10 ^ s.length := Nat.mul_le_mul_right _ (by omega)
    omega
theorem tv_take {s : List Nat} {i c : Nat} (h : s[i]? = some c) : tv 0 (s.take (i + 1)) = tv 0 (s.take i) * 10 + dg c := by
  rw [List.take_add_one, h, tv_app]
  rfl
theorem getCells_u8s {M : PT Blk} {nx b : Nat} {s : List Nat} (hb : M.get b = some (.row (u8s s) false)) {i c : Nat} (hi : s[i]? = some c) : getCells ⟨M, nx⟩ b (0 + i * 1) 1 = some [.int .u8 (c : Int)] := by
  refine cellAt_get (h := ⟨M, nx⟩) ?_
  unfold cellAt
  simp only [hb]
  unfold u8s
  simp [hi]
theorem tBytes : Tryz.prog.underlying 262 = some (.slice 5) := by kernel_rfl
theorem tUint : Tryz.prog.underlying 170 = some (.int .u64) := by kernel_rfl
theorem fn_parseI : fnE Tryz.prog 199 = some ⟨(Go.Proofs.Tryz.f199.body).getD .skip, 172, [.tmp 6, .tmp 7]⟩ := by kernel_rfl
theorem parseI_run {hk : Hooks} (hn : ∀ a h, hk 199 a h = none) {h : Hp} (hf : h.fr) {s : List Nat} (hd : s.all isDig = true) (h1 : s ≠ []) (h9 : s.length ≤ 9) :
    ExF Tryz.prog hk 199 [.str s, .int .i64 10, .int .i64 32] h fun r' h1 => r' = .tup [.int .u64 (tv 0 s : Nat), .nili] ∧ h.sub h1 := by
  have hne : (s == []) = false := by cases s with
    | nil => exact absurd rfl h1
    | cons a l => rfl
  refine ExF.body fn_parseI (hn _ _) (by simp) ?_
  simp only [Go.Proofs.Tryz.f199, Option.getD_some]
  (repeat refine Ex.assoc ?_); refine Ex.step (m := 0) (by simp (config := {decide := true}) only [RS, Nat.reduceAdd]; rfl) ?_
  (repeat refine Ex.assoc ?_); refine Ex.step (m := 0) (by simp (config := {decide := true}) only [RS, Nat.reduceAdd, bytes_nil]; rfl) ?_
  refine Ex.forget fun E hE => ?_; have k0 := hE 0; simp (config := {decide := true}) only [RS, Nat.reduceAdd] at k0; have k1 := hE 1; simp (config := {decide := true}) only [RS, Nat.reduceAdd] at k1; have k2 := hE 2; simp (config := {decide := true}) only [RS, Nat.reduceAdd] at k2; have k19 := hE 19; simp (config := {decide := true}) only [RS, Nat.reduceAdd] at k19; clear hE; have g0 := k0; clear k0; have g1 := k1; clear k1; have g2 := k2; clear k2; have g19 := k19; clear k19
  refine Ex.ifF (by simp (config := {decide := true}) only [RS, Nat.reduceAdd, g19, hne]) (Ex.skipS ?_)
  (repeat refine Ex.assoc ?_); refine Ex.step (m := 0) (by simp (config := {decide := true}) only [RS, Nat.reduceAdd, g1]; rfl) ?_
  (repeat refine Ex.assoc ?_); refine Ex.step (m := 0) (by simp (config := {decide := true}) only [RS, Nat.reduceAdd, g0]; rfl) ?_
  refine Ex.forget fun E hE => ?_; have k0 := hE 0; simp (config := {decide := true}) only [RS, Nat.reduceAdd, g0, g1, g2, g19] at k0; have k1 := hE 1; simp (config := {decide := true}) only [RS, Nat.reduceAdd, g0, g1, g2, g19] at k1; have k2 := hE 2; simp (config := {decide := true}) only [RS, Nat.reduceAdd, g0, g1, g2, g19] at k2; have k8 := hE 8; simp (config := {decide := true}) only [RS, Nat.reduceAdd, g0, g1, g2, g19] at k8; clear hE g0 g1 g2 g19; have g0 := k0; clear k0; have g1 := k1; clear k1; have g2 := k2; clear k2; have g8 := k8; clear k8
  (repeat refine Ex.assoc ?_)
  refine Ex.cut (fun env h' => env.get 0 = some (.str s) ∧ env.get 1 = some (.int .i64 10) ∧ env.get 2 = some (.int .i64 32) ∧ env.get 8 = some (.bool false) ∧ h'.m = h.m ∧ h.nx ≤ h'.nx) (Ex.block ?_) ?_
  · (repeat refine Ex.assoc ?_); refine Ex.step (m := 0) (by simp (config := {decide := true}) only [RS, Nat.reduceAdd, g1]; rfl) ?_
    refine Ex.forget fun E hE => ?_; have k0 := hE 0; simp (config := {decide := true}) only [RS, Nat.reduceAdd, g0, g1, g2, g8] at k0; have k1 := hE 1; simp (config := {decide := true}) only [RS, Nat.reduceAdd, g0, g1, g2, g8] at k1; have k2 := hE 2; simp (config := {decide := true}) only [RS, Nat.reduceAdd, g0, g1, g2, g8] at k2; have k8 := hE 8; simp (config := {decide := true}) only [RS, Nat.reduceAdd, g0, g1, g2, g8] at k8; have k25 := hE 25; simp (config := {decide := true}) only [RS, Nat.reduceAdd, g0, g1, g2, g8] at k25; clear hE g0 g1 g2 g8; have g0 := k0; clear k0; have g1 := k1; clear k1; have g2 := k2; clear k2; have g8 := k8; clear k8; have g25 := k25; clear k25
    refine Ex.cond_true (by simp (config := {decide := true}) only [RS, Nat.reduceAdd, g25] <;> rfl) (Ex.skip ?_)
    simp (config := {decide := true}) only [thenK, blockK, ite_true, ite_false, if_true, if_false]
    exact ⟨g0, g1, g2, by rw [g8]; rfl, by trivial, (by first | omega | (simp only [Nat.add_assoc]; omega) | (dsimp only; omega))⟩
  clear g0 g1 g2 g8
  rintro env ⟨M0, N0⟩ ⟨g0, g1, g2, g8, e1, e2⟩
  dsimp only at e1 e2
  subst e1
  (repeat refine Ex.assoc ?_); refine Ex.step (m := 0) (by simp (config := {decide := true}) only [RS, Nat.reduceAdd, g2]; rfl) ?_
  refine Ex.forget fun E hE => ?_; have k0 := hE 0; simp (config := {decide := true}) only [RS, Nat.reduceAdd, g0, g1, g2, g8] at k0; have k1 := hE 1; simp (config := {decide := true}) only [RS, Nat.reduceAdd, g0, g1, g2, g8] at k1; have k2 := hE 2; simp (config := {decide := true}) only [RS, Nat.reduceAdd, g0, g1, g2, g8] at k2; have k8 := hE 8; simp (config := {decide := true}) only [RS, Nat.reduceAdd, g0, g1, g2, g8] at k8; have k77 := hE 77; simp (config := {decide := true}) only [RS, Nat.reduceAdd, g0, g1, g2, g8] at k77; clear hE g0 g1 g2 g8; have g0 := k0; clear k0; have g1 := k1; clear k1; have g2 := k2; clear k2; have g8 := k8; clear k8; have g77 := k77; clear k77
  refine Ex.ifF (by simp (config := {decide := true}) only [RS, Nat.reduceAdd, g77] <;> rfl) ?_
  (repeat refine Ex.assoc ?_)
  (repeat refine Ex.assoc ?_); refine Ex.step (m := 0) (by simp (config := {decide := true}) only [RS, Nat.reduceAdd, g2]; rfl) ?_
  refine Ex.forget fun E hE => ?_; have k0 := hE 0; simp (config := {decide := true}) only [RS, Nat.reduceAdd, g0, g1, g2, g8, g77] at k0; have k1 := hE 1; simp (config := {decide := true}) only [RS, Nat.reduceAdd, g0, g1, g2, g8, g77] at k1; have k2 := hE 2; simp (config := {decide := true}) only [RS, Nat.reduceAdd, g0, g1, g2, g8, g77] at k2; have k8 := hE 8; simp (config := {decide := true}) only [RS, Nat.reduceAdd, g0, g1, g2, g8, g77] at k8; have k83 := hE 83; simp (config := {decide := true}) only [RS, Nat.reduceAdd, g0, g1, g2, g8, g77] at k83; clear hE g0 g1 g2 g8 g77; have g0 := k0; clear k0; have g1 := k1; clear k1; have g2 := k2; clear k2; have g8 := k8; clear k8; have g83 := k83; clear k83
  refine Ex.ifF (by simp (config := {decide := true}) only [RS, Nat.reduceAdd, g83] <;> rfl) (Ex.skipS ?_)
  (repeat refine Ex.assoc ?_); refine Ex.step (m := 0) (by simp (config := {decide := true}) only [RS, Nat.reduceAdd]; rfl) ?_
  (repeat refine Ex.assoc ?_); refine Ex.step (m := 0) (by simp (config := {decide := true}) only [RS, Nat.reduceAdd, g1]; rfl) ?_
  refine Ex.forget fun E hE => ?_; have k0 := hE 0; simp (config := {decide := true}) only [RS, Nat.reduceAdd, g0, g1, g2, g8, g83] at k0; have k1 := hE 1; simp (config := {decide := true}) only [RS, Nat.reduceAdd, g0, g1, g2, g8, g83] at k1; have k2 := hE 2; simp (config := {decide := true}) only [RS, Nat.reduceAdd, g0, g1, g2, g8, g83] at k2; have k8 := hE 8; simp (config := {decide := true}) only [RS, Nat.reduceAdd, g0, g1, g2, g8, g83] at k8; have k85 := hE 85; simp (config := {decide := true}) only [RS, Nat.reduceAdd, g0, g1, g2, g8, g83] at k85; clear hE g0 g1 g2 g8 g83; have g0 := k0; clear k0; have g1 := k1; clear k1; have g2 := k2; clear k2; have g8 := k8; clear k8; have g85 := k85; clear k85
  (repeat refine Ex.assoc ?_)
  refine Ex.cut (fun env h' => env.get 0 = some (.str s) ∧ env.get 1 = some (.int .i64 10) ∧ env.get 2 = some (.int .i64 32) ∧ env.get 8 = some (.bool false) ∧ env.get 10 = some (.int .u64 1844674407370955162) ∧ h'.m = h.m ∧ h.nx ≤ h'.nx) (Ex.block ?_) ?_
  · (repeat refine Ex.assoc ?_); refine Ex.step (m := 0) (by simp (config := {decide := true}) only [RS, Nat.reduceAdd, g85]; rfl) ?_
    refine Ex.forget fun E hE => ?_; have k0 := hE 0; simp (config := {decide := true}) only [RS, Nat.reduceAdd, g0, g1, g2, g8, g85] at k0; have k1 := hE 1; simp (config := {decide := true}) only [RS, Nat.reduceAdd, g0, g1, g2, g8, g85] at k1; have k2 := hE 2; simp (config := {decide := true}) only [RS, Nat.reduceAdd, g0, g1, g2, g8, g85] at k2; have k8 := hE 8; simp (config := {decide := true}) only [RS, Nat.reduceAdd, g0, g1, g2, g8, g85] at k8; have k90 := hE 90; simp (config := {decide := true}) only [RS, Nat.reduceAdd, g0, g1, g2, g8, g85] at k90; clear hE g0 g1 g2 g8 g85; have g0 := k0; clear k0; have g1 := k1; clear k1; have g2 := k2; clear k2; have g8 := k8; clear k8; have g90 := k90; clear k90
    refine Ex.cond_true (by simp (config := {decide := true}) only [RS, Nat.reduceAdd, g90] <;> rfl) ?_
    refine Ex.last (m := 0) (by simp (config := {decide := true}) only [RS, Nat.reduceAdd]; rfl) ?_
    simp (config := {decide := true}) only [thenK, blockK, ite_true, ite_false, if_true, if_false]
    exact ⟨by simp (config := {decide := true}) only [RS, Nat.reduceAdd, g0], by simp (config := {decide := true}) only [RS, Nat.reduceAdd, g1], by simp (config := {decide := true}) only [RS, Nat.reduceAdd, g2], by simp (config := {decide := true}) only [RS, Nat.reduceAdd, g8], by simp (config := {decide := true}) only [RS, Nat.reduceAdd], by trivial, (by first | omega | (simp only [Nat.add_assoc]; omega) | (dsimp only; omega))⟩
  clear g0 g1 g2 g8 g85
  rintro env ⟨M0, N1⟩ ⟨g0, g1, g2, g8, g10, e1, e3⟩
  dsimp only at e1 e3
  subst e1
  (repeat refine Ex.assoc ?_); refine Ex.step (m := 0) (by simp (config := {decide := true}) only [RS, Nat.reduceAdd, g2, tUint, tInt]; rfl) ?_
  refine Ex.forget fun E hE => ?_; have k0 := hE 0; simp (config := {decide := true}) only [RS, Nat.reduceAdd, g0, g1, g2, g8, g10] at k0; have k1 := hE 1; simp (config := {decide := true}) only [RS, Nat.reduceAdd, g0, g1, g2, g8, g10] at k1; have k8 := hE 8; simp (config := {decide := true}) only [RS, Nat.reduceAdd, g0, g1, g2, g8, g10] at k8; have k10 := hE 10; simp (config := {decide := true}) only [RS, Nat.reduceAdd, g0, g1, g2, g8, g10] at k10; have k11 := hE 11; simp (config := {decide := true}) only [RS, Nat.reduceAdd, g0, g1, g2, g8, g10] at k11; clear hE g0 g1 g2 g8 g10; have g0 := k0; clear k0; have g1 := k1; clear k1; have g8 := k8; clear k8; have g10 := k10; clear k10; have g11 := k11; clear k11
  (repeat refine Ex.assoc ?_); refine Ex.step (m := 0) (by simp (config := {decide := true}) only [RS, Nat.reduceAdd]; rfl) ?_
  (repeat refine Ex.assoc ?_); refine Ex.step (m := 0) (by simp (config := {decide := true}) only [RS, Nat.reduceAdd]; rfl) ?_
  refine Ex.forget fun E hE => ?_; have k0 := hE 0; simp (config := {decide := true}) only [RS, Nat.reduceAdd, g0, g1, g8, g10, g11] at k0; have k1 := hE 1; simp (config := {decide := true}) only [RS, Nat.reduceAdd, g0, g1, g8, g10, g11] at k1; have k8 := hE 8; simp (config := {decide := true}) only [RS, Nat.reduceAdd, g0, g1, g8, g10, g11] at k8; have k10 := hE 10; simp (config := {decide := true}) only [RS, Nat.reduceAdd, g0, g1, g8, g10, g11] at k10; have k11 := hE 11; simp (config := {decide := true}) only [RS, Nat.reduceAdd, g0, g1, g8, g10, g11] at k11; have k12 := hE 12; simp (config := {decide := true}) only [RS, Nat.reduceAdd, g0, g1, g8, g10, g11] at k12; have k13 := hE 13; simp (config := {decide := true}) only [RS, Nat.reduceAdd, g0, g1, g8, g10, g11] at k13; clear hE g0 g1 g8 g10 g11; have g0 := k0; clear k0; have g1 := k1; clear k1; have g8 := k8; clear k8; have g10 := k10; clear k10; have g11 := k11; clear k11; have g12 := k12; clear k12; have g13 := k13; clear k13
  have hN3 : h.m.get (N1 + 5 + 1 + 1 + 1) = none := hf _ (by omega)
  (repeat refine Ex.assoc ?_)
  have hln : s.length ≤ most := by have : most = 1099511627776 := rfl; omega
  (repeat refine Ex.assoc ?_); refine Ex.step (m := 0) (by simp (config := {decide := true}) only [RS, Nat.reduceAdd, g0, tStr, tBytes, tU8, fresh, hN3, hln, aLen]; rfl) ?_
  refine Ex.forget2 fun E hL hE hL_m hL_x => ?_; have k1 := hE 1; simp (config := {decide := true}) only [RS, Nat.reduceAdd, g1, g8, g10, g11, g12, g13] at k1; have k8 := hE 8; simp (config := {decide := true}) only [RS, Nat.reduceAdd, g1, g8, g10, g11, g12, g13] at k8; have k10 := hE 10; simp (config := {decide := true}) only [RS, Nat.reduceAdd, g1, g8, g10, g11, g12, g13] at k10; have k11 := hE 11; simp (config := {decide := true}) only [RS, Nat.reduceAdd, g1, g8, g10, g11, g12, g13] at k11; have k12 := hE 12; simp (config := {decide := true}) only [RS, Nat.reduceAdd, g1, g8, g10, g11, g12, g13] at k12; have k13 := hE 13; simp (config := {decide := true}) only [RS, Nat.reduceAdd, g1, g8, g10, g11, g12, g13] at k13; have k99 := hE 99; simp (config := {decide := true}) only [RS, Nat.reduceAdd, g1, g8, g10, g11, g12, g13] at k99; have k100 := hE 100; simp (config := {decide := true}) only [RS, Nat.reduceAdd, g1, g8, g10, g11, g12, g13] at k100; have k101 := hE 101; simp (config := {decide := true}) only [RS, Nat.reduceAdd, g1, g8, g10, g11, g12, g13] at k101; clear hE g1 g8 g10 g11 g12 g13; have g1 := k1; clear k1; have g8 := k8; clear k8; have g10 := k10; clear k10; have g11 := k11; clear k11; have g12 := k12; clear k12; have g13 := k13; clear k13; have g99 := k99; clear k99; have g100 := k100; clear k100; have g101 := k101; clear k101; dsimp only at hL_m hL_x
  obtain ⟨BB, hBB⟩ : ∃ b, b = N1 + 8 := ⟨_, rfl⟩
  rw [← hBB] at g99 hL_m
  have hrow : hL.m.get BB = some (.row (u8s s) false) := by rw [hL_m, PT.get_set, if_pos rfl]; rfl
  have hsub : ∀ nx, h.sub ⟨hL.m, nx⟩ := fun nx b x hb => by
    show hL.m.get b = some x
    rw [hL_m, PT.get_set, if_neg]
    · exact hb
    · intro e; rw [e, hBB, hN3] at hb; cases hb
  have w11 : IntKind.u64.wrap (IntKind.u64.wrap (1 * 2 ^ min (IntKind.u64.wrap 32).toNat IntKind.u64.bits) - 1) = 4294967295 := by decide
  rw [w11] at g11
  rcases hL with ⟨M, N⟩
  dsimp only at hrow hL_x hsub
  clear hL_m w11
  (repeat refine Ex.assoc ?_)
  refine Ex.cut (fun env h' => env.get 12 = some (.bool false) ∧ env.get 13 = some (.int .u64 (tv 0 s : Nat)) ∧ h'.m = M) (Ex.block ?_) ?_
  · refine Ex.loop (fun k env h' => ∃ i, i + k = s.length ∧ env.get 1 = some (.int .i64 10) ∧ env.get 8 = some (.bool false) ∧ env.get 10 = some (.int .u64 1844674407370955162) ∧ env.get 11 = some (.int .u64 4294967295) ∧ env.get 12 = some (.bool false) ∧
      env.get 13 = some (.int .u64 (tv 0 (s.take i) : Nat)) ∧ env.get 99 = some (.slice BB 0 s.length s.length false 1) ∧ env.get 100 = some (.int .i64 s.length) ∧ env.get 101 = some (.int .i64 (i : Nat)) ∧ h'.m = M) ?_ s.length _ _ ?_
    · clear g1 g8 g10 g11 g12 g13 g99 g100 g101
      rintro k env ⟨M', N'⟩ ⟨i, hik, g1, g8, g10, g11, g12, g13, g99, g100, g101, e1⟩
      dsimp only at e1
      subst e1
      (repeat refine Ex.assoc ?_); refine Ex.step (m := 0) (by simp (config := {decide := true}) only [RS, Nat.reduceAdd, g101, g100]; rfl) ?_
      refine Ex.forget fun E hE => ?_; have k1 := hE 1; simp (config := {decide := true}) only [RS, Nat.reduceAdd, g1, g8, g10, g11, g12, g13, g99, g100, g101] at k1; have k8 := hE 8; simp (config := {decide := true}) only [RS, Nat.reduceAdd, g1, g8, g10, g11, g12, g13, g99, g100, g101] at k8; have k10 := hE 10; simp (config := {decide := true}) only [RS, Nat.reduceAdd, g1, g8, g10, g11, g12, g13, g99, g100, g101] at k10; have k11 := hE 11; simp (config := {decide := true}) only [RS, Nat.reduceAdd, g1, g8, g10, g11, g12, g13, g99, g100, g101] at k11; have k12 := hE 12; simp (config := {decide := true}) only [RS, Nat.reduceAdd, g1, g8, g10, g11, g12, g13, g99, g100, g101] at k12; have k13 := hE 13; simp (config := {decide := true}) only [RS, Nat.reduceAdd, g1, g8, g10, g11, g12, g13, g99, g100, g101] at k13; have k99 := hE 99; simp (config := {decide := true}) only [RS, Nat.reduceAdd, g1, g8, g10, g11, g12, g13, g99, g100, g101] at k99; have k100 := hE 100; simp (config := {decide := true}) only [RS, Nat.reduceAdd, g1, g8, g10, g11, g12, g13, g99, g100, g101] at k100; have k101 := hE 101; simp (config := {decide := true}) only [RS, Nat.reduceAdd, g1, g8, g10, g11, g12, g13, g99, g100, g101] at k101; have k102 := hE 102; simp (config := {decide := true}) only [RS, Nat.reduceAdd, g1, g8, g10, g11, g12, g13, g99, g100, g101] at k102; clear hE g1 g8 g10 g11 g12 g13 g99 g100 g101; have g1 := k1; clear k1; have g8 := k8; clear k8; have g10 := k10; clear k10; have g11 := k11; clear k11; have g12 := k12; clear k12; have g13 := k13; clear k13; have g99 := k99; clear k99; have g100 := k100; clear k100; have g101 := k101; clear k101; have g102 := k102; clear k102
      by_cases hi : i < s.length
      · have hi' : ((i : Nat) : Int) < ((s.length : Nat) : Int) := by omega
        refine Ex.ifT (by simp (config := {decide := true}) only [RS, Nat.reduceAdd, g102, hi']) (Ex.skipS ?_)
        obtain ⟨c, hc⟩ : ∃ c, s[i]? = some c := ⟨s[i], List.getElem?_eq_getElem hi⟩
        have hcd : isDig c = true := List.all_eq_true.1 hd c (List.mem_of_getElem? hc)
        obtain ⟨c1, c2⟩ := isDig_iff.1 hcd
        have hcell := fun nx => getCells_u8s (M := M') (nx := nx) hrow hc
        have q95 : (((c : Nat) : Int) == 95) = false := by rw [beq_eq_false_iff_ne]; omega
        have d1 : (48 : Int) ≤ ((c : Nat) : Int) := by omega
        have d2 : ((c : Nat) : Int) ≤ 57 := by omega
        have w1 : IntKind.u8.wrap (((c : Nat) : Int) - 48) = ((c - 48 : Nat) : Int) := by rw [wrap_u8] <;> omega
        obtain ⟨D, hD⟩ : ∃ D, D = c - 48 := ⟨_, rfl⟩
        obtain ⟨V, hV⟩ : ∃ V, V = tv 0 (s.take i) := ⟨_, rfl⟩
        have hWV := tv_take hc
        obtain ⟨W, hW⟩ : ∃ W, W = tv 0 (s.take (i + 1)) := ⟨_, rfl⟩
        rw [dg_eq, ← hD, ← hV, ← hW] at hWV
        have hVl : V < 100000000 := by
          have h1 := tv_lt (s.take i) (by rw [List.all_eq_true] at hd ⊢; exact fun x hx => hd x (List.mem_of_mem_take hx))
          have h2 : (s.take i).length ≤ 8 := by rw [List.length_take]; omega
          have h3 := Nat.pow_le_pow_right (n := 10) (by omega) h2
          rw [hV]
          exact Nat.lt_of_lt_of_le h1 h3
        have w10 : IntKind.u8.wrap 10 = 10 := by decide
        have w64 : IntKind.u64.wrap 10 = 10 := by decide
        have d3 : ¬ ((D : Nat) : Int) ≥ 10 := by omega
        have d4 : ¬ ((V : Nat) : Int) ≥ 1844674407370955162 := by omega
        have w2 : IntKind.u64.wrap (((V : Nat) : Int) * 10) = ((V * 10 : Nat) : Int) := by rw [wrap_u64] <;> omega
        have w3 : IntKind.u64.wrap ((D : Nat) : Int) = (D : Nat) := by rw [wrap_u64] <;> omega
        have w4 : IntKind.u64.wrap (((V * 10 : Nat) : Int) + ((D : Nat) : Int)) = (W : Nat) := by rw [wrap_u64] <;> omega
        have d5 : ¬ ((W : Nat) : Int) < ((V * 10 : Nat) : Int) := by omega
        have d6 : ¬ ((W : Nat) : Int) > 4294967295 := by omega
        (repeat refine Ex.assoc ?_)
        refine Ex.cut (fun env h' => env.get 1 = some (.int .i64 10) ∧ env.get 8 = some (.bool false) ∧ env.get 10 = some (.int .u64 1844674407370955162) ∧ env.get 11 = some (.int .u64 4294967295) ∧ env.get 12 = some (.bool false) ∧
          env.get 13 = some (.int .u64 (tv 0 (s.take (i + 1)) : Nat)) ∧ env.get 99 = some (.slice BB 0 s.length s.length false 1) ∧ env.get 100 = some (.int .i64 s.length) ∧ env.get 101 = some (.int .i64 (i : Nat)) ∧ h'.m = M') (Ex.block ?_) ?_
        · have z0 : (0 : Int) ≤ ((i : Nat) : Int) := by omega
          have z1 : ((i : Nat) : Int).toNat = i := by omega
          (repeat refine Ex.assoc ?_); refine Ex.step (m := 0) (by simp (config := {decide := true}) only [RS, Nat.reduceAdd, g99, g101, tBytes, hU8, sU8, aU8, hi', z0, z1, hcell]; rfl) ?_
          (repeat refine Ex.assoc ?_); refine Ex.step (m := 0) (by simp (config := {decide := true}) only [RS, Nat.reduceAdd]; rfl) ?_
          refine Ex.forget fun E hE => ?_; have k1 := hE 1; simp (config := {decide := true}) only [RS, Nat.reduceAdd, g1, g8, g10, g11, g12, g13, g99, g100, g101, g102] at k1; have k8 := hE 8; simp (config := {decide := true}) only [RS, Nat.reduceAdd, g1, g8, g10, g11, g12, g13, g99, g100, g101, g102] at k8; have k10 := hE 10; simp (config := {decide := true}) only [RS, Nat.reduceAdd, g1, g8, g10, g11, g12, g13, g99, g100, g101, g102] at k10; have k11 := hE 11; simp (config := {decide := true}) only [RS, Nat.reduceAdd, g1, g8, g10, g11, g12, g13, g99, g100, g101, g102] at k11; have k12 := hE 12; simp (config := {decide := true}) only [RS, Nat.reduceAdd, g1, g8, g10, g11, g12, g13, g99, g100, g101, g102] at k12; have k13 := hE 13; simp (config := {decide := true}) only [RS, Nat.reduceAdd, g1, g8, g10, g11, g12, g13, g99, g100, g101, g102] at k13; have k99 := hE 99; simp (config := {decide := true}) only [RS, Nat.reduceAdd, g1, g8, g10, g11, g12, g13, g99, g100, g101, g102] at k99; have k100 := hE 100; simp (config := {decide := true}) only [RS, Nat.reduceAdd, g1, g8, g10, g11, g12, g13, g99, g100, g101, g102] at k100; have k101 := hE 101; simp (config := {decide := true}) only [RS, Nat.reduceAdd, g1, g8, g10, g11, g12, g13, g99, g100, g101, g102] at k101; have k15 := hE 15; simp (config := {decide := true}) only [RS, Nat.reduceAdd, g1, g8, g10, g11, g12, g13, g99, g100, g101, g102] at k15; have k16 := hE 16; simp (config := {decide := true}) only [RS, Nat.reduceAdd, g1, g8, g10, g11, g12, g13, g99, g100, g101, g102] at k16; clear hE g1 g8 g10 g11 g12 g13 g99 g100 g101 g102; have g1 := k1; clear k1; have g8 := k8; clear k8; have g10 := k10; clear k10; have g11 := k11; clear k11; have g12 := k12; clear k12; have g13 := k13; clear k13; have g99 := k99; clear k99; have g100 := k100; clear k100; have g101 := k101; clear k101; have g15 := k15; clear k15; have g16 := k16; clear k16
          (repeat refine Ex.assoc ?_)
          refine Ex.cut (fun env h' => env.get 1 = some (.int .i64 10) ∧ env.get 8 = some (.bool false) ∧ env.get 10 = some (.int .u64 1844674407370955162) ∧ env.get 11 = some (.int .u64 4294967295) ∧ env.get 12 = some (.bool false) ∧
            env.get 13 = some (.int .u64 (tv 0 (s.take i) : Nat)) ∧ env.get 99 = some (.slice BB 0 s.length s.length false 1) ∧ env.get 100 = some (.int .i64 s.length) ∧ env.get 101 = some (.int .i64 (i : Nat)) ∧ env.get 16 = some (.int .u8 (c - 48 : Nat)) ∧ h'.m = M') (Ex.block ?_) ?_
          · (repeat refine Ex.assoc ?_); refine Ex.step (m := 0) (by simp (config := {decide := true}) only [RS, Nat.reduceAdd, g15, g8, q95]; rfl) ?_
            refine Ex.forget fun E hE => ?_; have k1 := hE 1; simp (config := {decide := true}) only [RS, Nat.reduceAdd, g1, g8, g10, g11, g12, g13, g99, g100, g101, g15, g16] at k1; have k8 := hE 8; simp (config := {decide := true}) only [RS, Nat.reduceAdd, g1, g8, g10, g11, g12, g13, g99, g100, g101, g15, g16] at k8; have k10 := hE 10; simp (config := {decide := true}) only [RS, Nat.reduceAdd, g1, g8, g10, g11, g12, g13, g99, g100, g101, g15, g16] at k10; have k11 := hE 11; simp (config := {decide := true}) only [RS, Nat.reduceAdd, g1, g8, g10, g11, g12, g13, g99, g100, g101, g15, g16] at k11; have k12 := hE 12; simp (config := {decide := true}) only [RS, Nat.reduceAdd, g1, g8, g10, g11, g12, g13, g99, g100, g101, g15, g16] at k12; have k13 := hE 13; simp (config := {decide := true}) only [RS, Nat.reduceAdd, g1, g8, g10, g11, g12, g13, g99, g100, g101, g15, g16] at k13; have k99 := hE 99; simp (config := {decide := true}) only [RS, Nat.reduceAdd, g1, g8, g10, g11, g12, g13, g99, g100, g101, g15, g16] at k99; have k100 := hE 100; simp (config := {decide := true}) only [RS, Nat.reduceAdd, g1, g8, g10, g11, g12, g13, g99, g100, g101, g15, g16] at k100; have k101 := hE 101; simp (config := {decide := true}) only [RS, Nat.reduceAdd, g1, g8, g10, g11, g12, g13, g99, g100, g101, g15, g16] at k101; have k15 := hE 15; simp (config := {decide := true}) only [RS, Nat.reduceAdd, g1, g8, g10, g11, g12, g13, g99, g100, g101, g15, g16] at k15; have k106 := hE 106; simp (config := {decide := true}) only [RS, Nat.reduceAdd, g1, g8, g10, g11, g12, g13, g99, g100, g101, g15, g16] at k106; clear hE g1 g8 g10 g11 g12 g13 g99 g100 g101 g15 g16; have g1 := k1; clear k1; have g8 := k8; clear k8; have g10 := k10; clear k10; have g11 := k11; clear k11; have g12 := k12; clear k12; have g13 := k13; clear k13; have g99 := k99; clear k99; have g100 := k100; clear k100; have g101 := k101; clear k101; have g15 := k15; clear k15; have g106 := k106; clear k106
            refine Ex.cond_false (by simp (config := {decide := true}) only [RS, Nat.reduceAdd, g106]) ?_
            (repeat refine Ex.assoc ?_); refine Ex.step (m := 0) (by simp (config := {decide := true}) only [RS, Nat.reduceAdd, g15, d1, d2]; rfl) ?_
            refine Ex.forget fun E hE => ?_; have k1 := hE 1; simp (config := {decide := true}) only [RS, Nat.reduceAdd, g1, g8, g10, g11, g12, g13, g99, g100, g101, g15, g106] at k1; have k8 := hE 8; simp (config := {decide := true}) only [RS, Nat.reduceAdd, g1, g8, g10, g11, g12, g13, g99, g100, g101, g15, g106] at k8; have k10 := hE 10; simp (config := {decide := true}) only [RS, Nat.reduceAdd, g1, g8, g10, g11, g12, g13, g99, g100, g101, g15, g106] at k10; have k11 := hE 11; simp (config := {decide := true}) only [RS, Nat.reduceAdd, g1, g8, g10, g11, g12, g13, g99, g100, g101, g15, g106] at k11; have k12 := hE 12; simp (config := {decide := true}) only [RS, Nat.reduceAdd, g1, g8, g10, g11, g12, g13, g99, g100, g101, g15, g106] at k12; have k13 := hE 13; simp (config := {decide := true}) only [RS, Nat.reduceAdd, g1, g8, g10, g11, g12, g13, g99, g100, g101, g15, g106] at k13; have k99 := hE 99; simp (config := {decide := true}) only [RS, Nat.reduceAdd, g1, g8, g10, g11, g12, g13, g99, g100, g101, g15, g106] at k99; have k100 := hE 100; simp (config := {decide := true}) only [RS, Nat.reduceAdd, g1, g8, g10, g11, g12, g13, g99, g100, g101, g15, g106] at k100; have k101 := hE 101; simp (config := {decide := true}) only [RS, Nat.reduceAdd, g1, g8, g10, g11, g12, g13, g99, g100, g101, g15, g106] at k101; have k15 := hE 15; simp (config := {decide := true}) only [RS, Nat.reduceAdd, g1, g8, g10, g11, g12, g13, g99, g100, g101, g15, g106] at k15; have k112 := hE 112; simp (config := {decide := true}) only [RS, Nat.reduceAdd, g1, g8, g10, g11, g12, g13, g99, g100, g101, g15, g106] at k112; clear hE g1 g8 g10 g11 g12 g13 g99 g100 g101 g15 g106; have g1 := k1; clear k1; have g8 := k8; clear k8; have g10 := k10; clear k10; have g11 := k11; clear k11; have g12 := k12; clear k12; have g13 := k13; clear k13; have g99 := k99; clear k99; have g100 := k100; clear k100; have g101 := k101; clear k101; have g15 := k15; clear k15; have g112 := k112; clear k112
            refine Ex.cond_true (by simp (config := {decide := true}) only [RS, Nat.reduceAdd, g112]) ?_
            refine Ex.last (m := 0) (by simp (config := {decide := true}) only [RS, Nat.reduceAdd, g15, tU8, w1]; rfl) ?_
            simp (config := {decide := true}) only [thenK, blockK, ite_true, ite_false, if_true, if_false]
            exact ⟨by simp (config := {decide := true}) only [RS, Nat.reduceAdd, g1], by simp (config := {decide := true}) only [RS, Nat.reduceAdd, g8], by simp (config := {decide := true}) only [RS, Nat.reduceAdd, g10], by simp (config := {decide := true}) only [RS, Nat.reduceAdd, g11], by simp (config := {decide := true}) only [RS, Nat.reduceAdd, g12], by simp (config := {decide := true}) only [RS, Nat.reduceAdd, g13, hV], by simp (config := {decide := true}) only [RS, Nat.reduceAdd, g99], by simp (config := {decide := true}) only [RS, Nat.reduceAdd, g100], by simp (config := {decide := true}) only [RS, Nat.reduceAdd, g101], by simp (config := {decide := true}) only [RS, Nat.reduceAdd, hD], by trivial⟩
          clear g1 g8 g10 g11 g12 g13 g99 g100 g101 g15 g16
          rintro env ⟨M4, N4⟩ ⟨g1, g8, g10, g11, g12, g13, g99, g100, g101, g16, e1⟩
          dsimp only at e1
          subst e1
          rw [← hD] at g16
          rw [← hV] at g13
          (repeat refine Ex.assoc ?_); refine Ex.step (m := 0) (by simp (config := {decide := true}) only [RS, Nat.reduceAdd, g16, g1, tU8, tInt, w10, d3]; rfl) ?_
          refine Ex.forget fun E hE => ?_; have k1 := hE 1; simp (config := {decide := true}) only [RS, Nat.reduceAdd, g1, g8, g10, g11, g12, g13, g99, g100, g101, g16] at k1; have k8 := hE 8; simp (config := {decide := true}) only [RS, Nat.reduceAdd, g1, g8, g10, g11, g12, g13, g99, g100, g101, g16] at k8; have k10 := hE 10; simp (config := {decide := true}) only [RS, Nat.reduceAdd, g1, g8, g10, g11, g12, g13, g99, g100, g101, g16] at k10; have k11 := hE 11; simp (config := {decide := true}) only [RS, Nat.reduceAdd, g1, g8, g10, g11, g12, g13, g99, g100, g101, g16] at k11; have k12 := hE 12; simp (config := {decide := true}) only [RS, Nat.reduceAdd, g1, g8, g10, g11, g12, g13, g99, g100, g101, g16] at k12; have k13 := hE 13; simp (config := {decide := true}) only [RS, Nat.reduceAdd, g1, g8, g10, g11, g12, g13, g99, g100, g101, g16] at k13; have k99 := hE 99; simp (config := {decide := true}) only [RS, Nat.reduceAdd, g1, g8, g10, g11, g12, g13, g99, g100, g101, g16] at k99; have k100 := hE 100; simp (config := {decide := true}) only [RS, Nat.reduceAdd, g1, g8, g10, g11, g12, g13, g99, g100, g101, g16] at k100; have k101 := hE 101; simp (config := {decide := true}) only [RS, Nat.reduceAdd, g1, g8, g10, g11, g12, g13, g99, g100, g101, g16] at k101; have k16 := hE 16; simp (config := {decide := true}) only [RS, Nat.reduceAdd, g1, g8, g10, g11, g12, g13, g99, g100, g101, g16] at k16; have k137 := hE 137; simp (config := {decide := true}) only [RS, Nat.reduceAdd, g1, g8, g10, g11, g12, g13, g99, g100, g101, g16] at k137; clear hE g1 g8 g10 g11 g12 g13 g99 g100 g101 g16; have g1 := k1; clear k1; have g8 := k8; clear k8; have g10 := k10; clear k10; have g11 := k11; clear k11; have g12 := k12; clear k12; have g13 := k13; clear k13; have g99 := k99; clear k99; have g100 := k100; clear k100; have g101 := k101; clear k101; have g16 := k16; clear k16; have g137 := k137; clear k137
          refine Ex.ifF (by simp (config := {decide := true}) only [RS, Nat.reduceAdd, g137]) (Ex.skipS ?_)
          (repeat refine Ex.assoc ?_); refine Ex.step (m := 0) (by simp (config := {decide := true}) only [RS, Nat.reduceAdd, g13, g10, d4]; rfl) ?_
          refine Ex.forget fun E hE => ?_; have k1 := hE 1; simp (config := {decide := true}) only [RS, Nat.reduceAdd, g1, g8, g10, g11, g12, g13, g99, g100, g101, g16, g137] at k1; have k8 := hE 8; simp (config := {decide := true}) only [RS, Nat.reduceAdd, g1, g8, g10, g11, g12, g13, g99, g100, g101, g16, g137] at k8; have k10 := hE 10; simp (config := {decide := true}) only [RS, Nat.reduceAdd, g1, g8, g10, g11, g12, g13, g99, g100, g101, g16, g137] at k10; have k11 := hE 11; simp (config := {decide := true}) only [RS, Nat.reduceAdd, g1, g8, g10, g11, g12, g13, g99, g100, g101, g16, g137] at k11; have k12 := hE 12; simp (config := {decide := true}) only [RS, Nat.reduceAdd, g1, g8, g10, g11, g12, g13, g99, g100, g101, g16, g137] at k12; have k13 := hE 13; simp (config := {decide := true}) only [RS, Nat.reduceAdd, g1, g8, g10, g11, g12, g13, g99, g100, g101, g16, g137] at k13; have k99 := hE 99; simp (config := {decide := true}) only [RS, Nat.reduceAdd, g1, g8, g10, g11, g12, g13, g99, g100, g101, g16, g137] at k99; have k100 := hE 100; simp (config := {decide := true}) only [RS, Nat.reduceAdd, g1, g8, g10, g11, g12, g13, g99, g100, g101, g16, g137] at k100; have k101 := hE 101; simp (config := {decide := true}) only [RS, Nat.reduceAdd, g1, g8, g10, g11, g12, g13, g99, g100, g101, g16, g137] at k101; have k16 := hE 16; simp (config := {decide := true}) only [RS, Nat.reduceAdd, g1, g8, g10, g11, g12, g13, g99, g100, g101, g16, g137] at k16; have k141 := hE 141; simp (config := {decide := true}) only [RS, Nat.reduceAdd, g1, g8, g10, g11, g12, g13, g99, g100, g101, g16, g137] at k141; clear hE g1 g8 g10 g11 g12 g13 g99 g100 g101 g16 g137; have g1 := k1; clear k1; have g8 := k8; clear k8; have g10 := k10; clear k10; have g11 := k11; clear k11; have g12 := k12; clear k12; have g13 := k13; clear k13; have g99 := k99; clear k99; have g100 := k100; clear k100; have g101 := k101; clear k101; have g16 := k16; clear k16; have g141 := k141; clear k141
          refine Ex.ifF (by simp (config := {decide := true}) only [RS, Nat.reduceAdd, g141]) (Ex.skipS ?_)
          (repeat refine Ex.assoc ?_); refine Ex.step (m := 0) (by simp (config := {decide := true}) only [RS, Nat.reduceAdd, g13, g1, tU64, tInt, w64, w2]; rfl) ?_
          (repeat refine Ex.assoc ?_); refine Ex.step (m := 0) (by simp (config := {decide := true}) only [RS, Nat.reduceAdd, g16, tU64, tU8, w3, w4]; rfl) ?_
          refine Ex.forget fun E hE => ?_; have k1 := hE 1; simp (config := {decide := true}) only [RS, Nat.reduceAdd, g1, g8, g10, g11, g12, g13, g99, g100, g101, g16, g141] at k1; have k8 := hE 8; simp (config := {decide := true}) only [RS, Nat.reduceAdd, g1, g8, g10, g11, g12, g13, g99, g100, g101, g16, g141] at k8; have k10 := hE 10; simp (config := {decide := true}) only [RS, Nat.reduceAdd, g1, g8, g10, g11, g12, g13, g99, g100, g101, g16, g141] at k10; have k11 := hE 11; simp (config := {decide := true}) only [RS, Nat.reduceAdd, g1, g8, g10, g11, g12, g13, g99, g100, g101, g16, g141] at k11; have k12 := hE 12; simp (config := {decide := true}) only [RS, Nat.reduceAdd, g1, g8, g10, g11, g12, g13, g99, g100, g101, g16, g141] at k12; have k13 := hE 13; simp (config := {decide := true}) only [RS, Nat.reduceAdd, g1, g8, g10, g11, g12, g13, g99, g100, g101, g16, g141] at k13; have k99 := hE 99; simp (config := {decide := true}) only [RS, Nat.reduceAdd, g1, g8, g10, g11, g12, g13, g99, g100, g101, g16, g141] at k99; have k100 := hE 100; simp (config := {decide := true}) only [RS, Nat.reduceAdd, g1, g8, g10, g11, g12, g13, g99, g100, g101, g16, g141] at k100; have k101 := hE 101; simp (config := {decide := true}) only [RS, Nat.reduceAdd, g1, g8, g10, g11, g12, g13, g99, g100, g101, g16, g141] at k101; have k17 := hE 17; simp (config := {decide := true}) only [RS, Nat.reduceAdd, g1, g8, g10, g11, g12, g13, g99, g100, g101, g16, g141] at k17; clear hE g1 g8 g10 g11 g12 g13 g99 g100 g101 g16 g141; have g1 := k1; clear k1; have g8 := k8; clear k8; have g10 := k10; clear k10; have g11 := k11; clear k11; have g12 := k12; clear k12; have g13 := k13; clear k13; have g99 := k99; clear k99; have g100 := k100; clear k100; have g101 := k101; clear k101; have g17 := k17; clear k17
          (repeat refine Ex.assoc ?_); refine Ex.step (m := 0) (by simp (config := {decide := true}) only [RS, Nat.reduceAdd, g17, g13, g11, d5, d6]; rfl) ?_
          refine Ex.forget fun E hE => ?_; have k1 := hE 1; simp (config := {decide := true}) only [RS, Nat.reduceAdd, g1, g8, g10, g11, g12, g13, g99, g100, g101, g17] at k1; have k8 := hE 8; simp (config := {decide := true}) only [RS, Nat.reduceAdd, g1, g8, g10, g11, g12, g13, g99, g100, g101, g17] at k8; have k10 := hE 10; simp (config := {decide := true}) only [RS, Nat.reduceAdd, g1, g8, g10, g11, g12, g13, g99, g100, g101, g17] at k10; have k11 := hE 11; simp (config := {decide := true}) only [RS, Nat.reduceAdd, g1, g8, g10, g11, g12, g13, g99, g100, g101, g17] at k11; have k12 := hE 12; simp (config := {decide := true}) only [RS, Nat.reduceAdd, g1, g8, g10, g11, g12, g13, g99, g100, g101, g17] at k12; have k13 := hE 13; simp (config := {decide := true}) only [RS, Nat.reduceAdd, g1, g8, g10, g11, g12, g13, g99, g100, g101, g17] at k13; have k99 := hE 99; simp (config := {decide := true}) only [RS, Nat.reduceAdd, g1, g8, g10, g11, g12, g13, g99, g100, g101, g17] at k99; have k100 := hE 100; simp (config := {decide := true}) only [RS, Nat.reduceAdd, g1, g8, g10, g11, g12, g13, g99, g100, g101, g17] at k100; have k101 := hE 101; simp (config := {decide := true}) only [RS, Nat.reduceAdd, g1, g8, g10, g11, g12, g13, g99, g100, g101, g17] at k101; have k17 := hE 17; simp (config := {decide := true}) only [RS, Nat.reduceAdd, g1, g8, g10, g11, g12, g13, g99, g100, g101, g17] at k17; have k159 := hE 159; simp (config := {decide := true}) only [RS, Nat.reduceAdd, g1, g8, g10, g11, g12, g13, g99, g100, g101, g17] at k159; clear hE g1 g8 g10 g11 g12 g13 g99 g100 g101 g17; have g1 := k1; clear k1; have g8 := k8; clear k8; have g10 := k10; clear k10; have g11 := k11; clear k11; have g12 := k12; clear k12; have g13 := k13; clear k13; have g99 := k99; clear k99; have g100 := k100; clear k100; have g101 := k101; clear k101; have g17 := k17; clear k17; have g159 := k159; clear k159
          refine Ex.ifF (by simp (config := {decide := true}) only [RS, Nat.reduceAdd, g159]) (Ex.skipS ?_)
          refine Ex.last (m := 0) (by simp (config := {decide := true}) only [RS, Nat.reduceAdd, g17]; rfl) ?_
          simp (config := {decide := true}) only [thenK, blockK, ite_true, ite_false, if_true, if_false]
          exact ⟨by simp (config := {decide := true}) only [RS, Nat.reduceAdd, g1], by simp (config := {decide := true}) only [RS, Nat.reduceAdd, g8], by simp (config := {decide := true}) only [RS, Nat.reduceAdd, g10], by simp (config := {decide := true}) only [RS, Nat.reduceAdd, g11], by simp (config := {decide := true}) only [RS, Nat.reduceAdd, g12], by simp (config := {decide := true}) only [RS, Nat.reduceAdd, hW], by simp (config := {decide := true}) only [RS, Nat.reduceAdd, g99], by simp (config := {decide := true}) only [RS, Nat.reduceAdd, g100], by simp (config := {decide := true}) only [RS, Nat.reduceAdd, g101], by trivial⟩
        clear g1 g8 g10 g11 g12 g13 g99 g100 g101 g102
        rintro env ⟨M4, N4⟩ ⟨g1, g8, g10, g11, g12, g13, g99, g100, g101, e1⟩
        dsimp only at e1
        subst e1
        have w5 : IntKind.i64.wrap (((i : Nat) : Int) + 1) = ((i + 1 : Nat) : Int) := by rw [wrap_i64] <;> omega
        refine Ex.last (m := 0) (by simp (config := {decide := true}) only [RS, Nat.reduceAdd, g101, w5]; rfl) ?_
        simp (config := {decide := true}) only [thenK, blockK, ite_true, ite_false, if_true, if_false]
        exact ⟨k - 1, by omega, i + 1, by omega, by simp (config := {decide := true}) only [RS, Nat.reduceAdd, g1], by simp (config := {decide := true}) only [RS, Nat.reduceAdd, g8], by simp (config := {decide := true}) only [RS, Nat.reduceAdd, g10], by simp (config := {decide := true}) only [RS, Nat.reduceAdd, g11], by simp (config := {decide := true}) only [RS, Nat.reduceAdd, g12], by simp (config := {decide := true}) only [RS, Nat.reduceAdd, g13], by simp (config := {decide := true}) only [RS, Nat.reduceAdd, g99], by simp (config := {decide := true}) only [RS, Nat.reduceAdd, g100], by simp (config := {decide := true}) only [RS, Nat.reduceAdd], by trivial⟩
      · have hi' : ¬ ((i : Nat) : Int) < ((s.length : Nat) : Int) := by omega
        refine Ex.ifF (by simp (config := {decide := true}) only [RS, Nat.reduceAdd, g102, hi']) (Ex.exitS ?_)
        simp (config := {decide := true}) only [thenK, blockK, ite_true, ite_false, if_true, if_false]
        refine ⟨g12, ?_, by trivial⟩
        rw [g13, List.take_of_length_le (by omega)]
    · exact ⟨0, by omega, g1, g8, g10, g11, g12, by rw [g13]; rfl, g99, g100, by rw [g101]; rfl, rfl⟩
  clear g1 g8 g10 g11 g12 g13 g99 g100 g101
  rintro env ⟨M4, N4⟩ ⟨g12, g13, e1⟩
  dsimp only at e1
  subst e1
  (repeat refine Ex.assoc ?_); refine Ex.step (m := 0) (by simp (config := {decide := true}) only [RS, Nat.reduceAdd, g12]; rfl) ?_
  refine Ex.forget fun E hE => ?_; have k13 := hE 13; simp (config := {decide := true}) only [RS, Nat.reduceAdd, g12, g13] at k13; have k169 := hE 169; simp (config := {decide := true}) only [RS, Nat.reduceAdd, g12, g13] at k169; clear hE g12 g13; have g13 := k13; clear k13; have g169 := k169; clear k169
  refine Ex.ifF (by simp (config := {decide := true}) only [RS, Nat.reduceAdd, g169] <;> rfl) (Ex.skipS ?_)
  (repeat refine Ex.assoc ?_); refine Ex.step (m := 0) (by simp (config := {decide := true}) only [RS, Nat.reduceAdd, g13]; rfl) ?_
  refine Ex.ret ⟨trivial, _, by simp (config := {decide := true}) only [RS, Nat.reduceAdd]; rfl, ?_, hsub _⟩
  simp (config := {decide := true}) only [RS, Nat.reduceAdd]
end Go.Vk
set_option linter.unusedSimpArgs false
set_option linter.unusedVariables false
set_option maxRecDepth 100000
set_option maxHeartbeats 4000000
namespace Go.Vk
open Go.Proofs (Tryz.prog)
def dl : List Nat := [48, 49, 50, 51, 52, 53, 54, 55, 56, 57]
theorem bytes_dl : bytesOf ({ data := #[48, 49, 50, 51, 52, 53, 54, 55, 56, 57] } : ByteArray) = dl := by decide
/-- The set of the digits. -/
def ascL : List AV := (List.range 256).map fun i => .bool (isDig i)
theorem asc0 : (callF Tryz.prog (fun _ _ _ => none) 300 194 [.str dl] ⟨.leaf, 1000⟩).map (·.1) = some (.tup [.agg ascL, .bool true]) := by kernel_rfl
theorem ascL_len : ascL.length = 256 := by simp [ascL]
theorem ascL_at {c : Nat} (h : c < 256) : ascL[c]? = some (.bool (isDig c)) := by
  unfold ascL
  rw [List.getElem?_map, List.getElem?_range h]; rfl
theorem asc_get {M : PT Blk} {nx b : Nat} {ro : Bool} (hb : M.get b = some (.row ascL ro)) {c : Nat} (h : c < 256) : getCells ⟨M, nx⟩ b (0 + c * 1) 1 = some [.bool (isDig c)] := by
  refine cellAt_get (h := ⟨M, nx⟩) ?_
  unfold cellAt
  simp only [hb]
  rw [Nat.zero_add, Nat.mul_one]
  exact ascL_at h
structure BareT (hk : Hooks) : Prop where
  grow : GrowOK hk
  cont : ∀ a h, hk 266 a h = none
  trimL : ∀ a h, hk 195 a h = none
  trimR : ∀ a h, hk 196 a h = none
  trim : ∀ a h, hk 129 a h = none
  parseI : ∀ a h, hk 199 a h = none
  parse : ∀ a h, hk 130 a h = none
  asc : ∀ h, hk 194 [.str dl] h = some (.tup [.agg ascL, .bool true], h)
theorem tAsc : Tryz.prog.underlying 295 = some (.array 256 4) := by kernel_rfl
theorem hBool : hasT Tryz.prog 4 = true := by kernel_rfl
theorem sBool : sizeT Tryz.prog 4 = 1 := by kernel_rfl
theorem aBool : aggT Tryz.prog 4 = false := by kernel_rfl
theorem fn_cont : fnE Tryz.prog 266 = some ⟨(Go.Proofs.Tryz.f266.body).getD .skip, 10, [.tmp 4]⟩ := by kernel_rfl
theorem cont_run {hk : Hooks} (B : BareT hk) {M : PT Blk} {N bb : Nat} {ro : Bool} (hb : M.get bb = some (.row ascL ro)) {c : Nat} (hc : c < 256) :
    ExF Tryz.prog hk 266 [.ptr bb 0, .int .u8 c] ⟨M, N⟩ fun r' h1 => r' = .bool (isDig c) ∧ h1.m = M := by
  refine ExF.body fn_cont (B.cont _ _) (by simp) ?_
  simp only [Go.Proofs.Tryz.f266, Option.getD_some]
  (repeat refine Ex.assoc ?_); refine Ex.step (m := 0) (by simp (config := {decide := true}) only [RS, Nat.reduceAdd]; rfl) ?_
  refine Ex.forget fun E hE => ?_; have k0 := hE 0; simp (config := {decide := true}) only [RS, Nat.reduceAdd] at k0; have k1 := hE 1; simp (config := {decide := true}) only [RS, Nat.reduceAdd] at k1; clear hE; have g0 := k0; clear k0; have g1 := k1; clear k1
  have z0 : (0 : Int) ≤ ((c : Nat) : Int) := by omega
  have z1 : ((c : Nat) : Int).toNat = c := by omega
  have z2 : ((c : Nat) : Int) < 256 := by omega
  have z3 : ((c : Nat) : Int) < ((256 : Nat) : Int) := by omega
  (repeat refine Ex.assoc ?_); refine Ex.step (m := 0) (by simp (config := {decide := true}) only [RS, Nat.reduceAdd, g0, g1, tAsc, hBool, sBool, aBool, z0, z1, z2, z3, fun nx => asc_get (M := M) (nx := nx) hb hc]; rfl) ?_
  refine Ex.ret ⟨trivial, _, by simp (config := {decide := true}) only [RS, Nat.reduceAdd]; rfl, ?_, rfl⟩
  simp (config := {decide := true}) only [RS, Nat.reduceAdd]
def dropR (s : List Nat) : List Nat := (s.reverse.dropWhile isDig).reverse
theorem dropR_app {t : List Nat} {c : Nat} : dropR (t ++ [c]) = if isDig c = true then dropR t else t ++ [c] := by
  unfold dropR
  rw [List.reverse_append, List.reverse_singleton, List.singleton_append, List.dropWhile_cons]
  split <;> simp
theorem exists_last {s : List Nat} (h : s.length ≠ 0) : ∃ t c, s = t ++ [c] := by
  have hne : s ≠ [] := fun e => h (by rw [e]; rfl)
  exact ⟨s.dropLast, s.getLast hne, (List.dropLast_concat_getLast hne).symm⟩
theorem fn_trimR : fnE Tryz.prog 196 = some ⟨(Go.Proofs.Tryz.f196.body).getD .skip, 22, [.tmp 4]⟩ := by kernel_rfl
theorem trimR_run {hk : Hooks} (B : BareT hk) {M : PT Blk} {N bb : Nat} {ro : Bool} (hb : M.get bb = some (.row ascL ro)) {s : List Nat} (hc : s.all (Nat.blt · 256) = true) (hl : s.length < 1000000000000) :
    ExF Tryz.prog hk 196 [.str s, .ptr bb 0] ⟨M, N⟩ fun r' h1 => r' = .str (dropR s) ∧ h1.m = M := by
  refine ExF.body fn_trimR (B.trimR _ _) (by simp) ?_
  simp only [Go.Proofs.Tryz.f196, Option.getD_some]
  (repeat refine Ex.assoc ?_); refine Ex.step (m := 0) (by simp (config := {decide := true}) only [RS, Nat.reduceAdd, bytes_nil]; rfl) ?_
  refine Ex.forget fun E hE => ?_; have k0 := hE 0; simp (config := {decide := true}) only [RS, Nat.reduceAdd] at k0; have k1 := hE 1; simp (config := {decide := true}) only [RS, Nat.reduceAdd] at k1; clear hE; have g0 := k0; clear k0; have g1 := k1; clear k1
  (repeat refine Ex.assoc ?_)
  refine Ex.cut (fun env h' => env.get 0 = some (.str (dropR s)) ∧ h'.m = M) (Ex.block ?_) ?_
  · refine Ex.loop (fun k env h' => ∃ u, u.length = k ∧ dropR u = dropR s ∧ u.all (Nat.blt · 256) = true ∧ k ≤ s.length ∧ env.get 0 = some (.str u) ∧ env.get 1 = some (.ptr bb 0) ∧ h'.m = M) ?_ s.length _ _ ⟨s, rfl, rfl, hc, Nat.le_refl _, g0, g1, rfl⟩
    clear g0 g1
    rintro k env ⟨M', N'⟩ ⟨u, hk', hu, hc', hkl, g0, g1, e1⟩
    dsimp only at e1
    subst e1
    (repeat refine Ex.assoc ?_); refine Ex.step (m := 0) (by simp (config := {decide := true}) only [RS, Nat.reduceAdd, g0, aLen, tStr]; rfl) ?_
    refine Ex.forget fun E hE => ?_; have k0 := hE 0; simp (config := {decide := true}) only [RS, Nat.reduceAdd, g0, g1] at k0; have k1 := hE 1; simp (config := {decide := true}) only [RS, Nat.reduceAdd, g0, g1] at k1; have k7 := hE 7; simp (config := {decide := true}) only [RS, Nat.reduceAdd, g0, g1] at k7; clear hE g0 g1; have g0 := k0; clear k0; have g1 := k1; clear k1; have g7 := k7; clear k7
    by_cases hi : u.length = 0
    · have hi' : ¬ ((u.length : Nat) : Int) > 0 := by omega
      refine Ex.ifF (by simp (config := {decide := true}) only [RS, Nat.reduceAdd, g7, hi']) (Ex.exitS ?_)
      simp (config := {decide := true}) only [thenK, blockK, ite_true, ite_false, if_true, if_false]
      exact ⟨by rw [g0, List.eq_nil_of_length_eq_zero hi, ← hu, List.eq_nil_of_length_eq_zero hi]; rfl, by trivial⟩
    · have hi' : ((u.length : Nat) : Int) > 0 := by omega
      refine Ex.ifT (by simp (config := {decide := true}) only [RS, Nat.reduceAdd, g7, hi']) (Ex.skipS ?_)
      obtain ⟨t, c, rfl⟩ := exists_last hi
      have hlen : (t ++ [c]).length = t.length + 1 := by simp
      rw [hlen] at hk' hi hi' g7
      rw [List.all_append, Bool.and_eq_true] at hc'
      have hcc : c < 256 := by have := hc'.2; simp [Nat.blt_eq] at this; exact this
      have w1 : IntKind.i64.wrap (((t.length + 1 : Nat) : Int) - 1) = ((t.length : Nat) : Int) := by rw [wrap_i64] <;> omega
      have z0 : (0 : Int) ≤ ((t.length : Nat) : Int) := by omega
      have z1 : ((t.length : Nat) : Int).toNat = t.length := by omega
      have z2 : (t ++ [c])[t.length]? = some c := by simp
      have z3 : ((t.length : Nat) : Int) ≤ ((t.length + 1 : Nat) : Int) := by omega
      have z4 : (t ++ [c]).take t.length = t := by simp
      refine Ex.block ?_
      obtain ⟨m1, N1, x1, q1⟩ := ExF.same B.grow (cont_run B (N := N' + 11) hb hcc)
      have q1' := q1 m1 (Nat.le_refl _)
      (repeat refine Ex.assoc ?_); refine Ex.step (m := m1) (by simp (config := {decide := true}) only [RS, Nat.reduceAdd, g0, g1, tStr, aLen, hlen, w1, z0, z1, z2, fn_cont, q1']; rfl) ?_
      refine Ex.forget fun E hE => ?_; have k0 := hE 0; simp (config := {decide := true}) only [RS, Nat.reduceAdd, g0, g1, g7] at k0; have k1 := hE 1; simp (config := {decide := true}) only [RS, Nat.reduceAdd, g0, g1, g7] at k1; have k15 := hE 15; simp (config := {decide := true}) only [RS, Nat.reduceAdd, g0, g1, g7] at k15; clear hE g0 g1 g7; have g0 := k0; clear k0; have g1 := k1; clear k1; have g15 := k15; clear k15
      cases hd : isDig c with
      | true =>
        rw [hd] at g15
        refine Ex.ifF (by simp (config := {decide := true}) only [RS, Nat.reduceAdd, g15] <;> rfl) (Ex.skipS ?_)
        refine Ex.last (m := 0) (by simp (config := {decide := true}) only [RS, Nat.reduceAdd, g0, tStr, aLen, hlen, w1, z0, z1, z3, and_self, List.drop_zero, Nat.sub_zero, z4]; rfl) ?_
        simp (config := {decide := true}) only [thenK, blockK, ite_true, ite_false, if_true, if_false]
        refine ⟨t.length, by omega, t, rfl, ?_, hc'.1, by omega, by simp (config := {decide := true}) only [RS, Nat.reduceAdd], by simp (config := {decide := true}) only [RS, Nat.reduceAdd, g1], by trivial⟩
        rw [← hu, dropR_app, if_pos hd]
      | false =>
        rw [hd] at g15
        refine Ex.ifT (by simp (config := {decide := true}) only [RS, Nat.reduceAdd, g15] <;> rfl) (Ex.exitS ?_)
        simp (config := {decide := true}) only [thenK, blockK, ite_true, ite_false, if_true, if_false]
        refine ⟨?_, by trivial⟩
        rw [g0, ← hu, dropR_app, if_neg (by rw [hd]; exact Bool.false_ne_true)]
  clear g0 g1
  rintro env ⟨M', N'⟩ ⟨g0, e1⟩
  dsimp only at e1
  subst e1
  (repeat refine Ex.assoc ?_); refine Ex.step (m := 0) (by simp (config := {decide := true}) only [RS, Nat.reduceAdd, g0]; rfl) ?_
  refine Ex.ret ⟨trivial, _, by simp (config := {decide := true}) only [RS, Nat.reduceAdd]; rfl, ?_, rfl⟩
  simp (config := {decide := true}) only [RS, Nat.reduceAdd]
theorem fn_trimL : fnE Tryz.prog 195 = some ⟨(Go.Proofs.Tryz.f195.body).getD .skip, 16, [.tmp 4]⟩ := by kernel_rfl
theorem trimL_run {hk : Hooks} (B : BareT hk) {M : PT Blk} {N bb : Nat} {ro : Bool} (hb : M.get bb = some (.row ascL ro)) {s : List Nat} (hc : s.all (Nat.blt · 256) = true) (hl : s.length < 1000000000000) :
    ExF Tryz.prog hk 195 [.str s, .ptr bb 0] ⟨M, N⟩ fun r' h1 => r' = .str (s.dropWhile isDig) ∧ h1.m = M := by
  refine ExF.body fn_trimL (B.trimL _ _) (by simp) ?_
  simp only [Go.Proofs.Tryz.f195, Option.getD_some]
  (repeat refine Ex.assoc ?_); refine Ex.step (m := 0) (by simp (config := {decide := true}) only [RS, Nat.reduceAdd, bytes_nil]; rfl) ?_
  refine Ex.forget fun E hE => ?_; have k0 := hE 0; simp (config := {decide := true}) only [RS, Nat.reduceAdd] at k0; have k1 := hE 1; simp (config := {decide := true}) only [RS, Nat.reduceAdd] at k1; clear hE; have g0 := k0; clear k0; have g1 := k1; clear k1
  (repeat refine Ex.assoc ?_)
  refine Ex.cut (fun env h' => env.get 0 = some (.str (s.dropWhile isDig)) ∧ h'.m = M) (Ex.block ?_) ?_
  · refine Ex.loop (fun k env h' => ∃ u : List Nat, u.length = k ∧ u.dropWhile isDig = s.dropWhile isDig ∧ u.all (Nat.blt · 256) = true ∧ k ≤ s.length ∧ env.get 0 = some (.str u) ∧ env.get 1 = some (.ptr bb 0) ∧ h'.m = M) ?_ s.length _ _ ⟨s, rfl, rfl, hc, Nat.le_refl _, g0, g1, rfl⟩
    clear g0 g1
    rintro k env ⟨M', N'⟩ ⟨u, hk', hu, hc', hkl, g0, g1, e1⟩
    dsimp only at e1
    subst e1
    (repeat refine Ex.assoc ?_); refine Ex.step (m := 0) (by simp (config := {decide := true}) only [RS, Nat.reduceAdd, g0, aLen, tStr]; rfl) ?_
    refine Ex.forget fun E hE => ?_; have k0 := hE 0; simp (config := {decide := true}) only [RS, Nat.reduceAdd, g0, g1] at k0; have k1 := hE 1; simp (config := {decide := true}) only [RS, Nat.reduceAdd, g0, g1] at k1; have k7 := hE 7; simp (config := {decide := true}) only [RS, Nat.reduceAdd, g0, g1] at k7; clear hE g0 g1; have g0 := k0; clear k0; have g1 := k1; clear k1; have g7 := k7; clear k7
    cases u with
    | nil =>
      have hi' : ¬ ((([] : List Nat).length : Nat) : Int) > 0 := by simp
      refine Ex.ifF (by simp (config := {decide := true}) only [RS, Nat.reduceAdd, g7, hi'] <;> rfl) (Ex.exitS ?_)
      simp (config := {decide := true}) only [thenK, blockK, ite_true, ite_false, if_true, if_false]
      exact ⟨by rw [g0, ← hu]; rfl, by trivial⟩
    | cons c t =>
      have hi' : ((t.length + 1 : Nat) : Int) > 0 := by omega
      have hlen : (c :: t).length = t.length + 1 := rfl
      refine Ex.ifT (by simp (config := {decide := true}) only [RS, Nat.reduceAdd, g7, hi']) (Ex.skipS ?_)
      rw [List.all_cons, Bool.and_eq_true] at hc'
      have hcc : c < 256 := by have := hc'.1; simp [Nat.blt_eq] at this; exact this
      have z3 : (1 : Int) ≤ ((t.length + 1 : Nat) : Int) := by omega
      have z4 : List.take (t.length + 1 - 1) t = t := by simp
      have z5 : ((t.length + 1 : Nat) : Int) ≤ ((t.length + 1 : Nat) : Int) := Int.le_refl _
      have z6 : Int.toNat 1 = 1 := rfl
      have z7 : List.drop 1 (c :: t) = t := rfl
      refine Ex.block ?_
      obtain ⟨m1, N1, x1, q1⟩ := ExF.same B.grow (cont_run B (N := N' + 8) hb hcc)
      have q1' := q1 m1 (Nat.le_refl _)
      (repeat refine Ex.assoc ?_); refine Ex.step (m := m1) (by simp (config := {decide := true}) only [RS, Nat.reduceAdd, g0, g1, tStr, Int.toNat_zero, fn_cont, q1']; rfl) ?_
      refine Ex.forget fun E hE => ?_; have k0 := hE 0; simp (config := {decide := true}) only [RS, Nat.reduceAdd, g0, g1, g7] at k0; have k1 := hE 1; simp (config := {decide := true}) only [RS, Nat.reduceAdd, g0, g1, g7] at k1; have k12 := hE 12; simp (config := {decide := true}) only [RS, Nat.reduceAdd, g0, g1, g7] at k12; clear hE g0 g1 g7; have g0 := k0; clear k0; have g1 := k1; clear k1; have g12 := k12; clear k12
      cases hd : isDig c with
      | true =>
        rw [hd] at g12
        refine Ex.ifF (by simp (config := {decide := true}) only [RS, Nat.reduceAdd, g12] <;> rfl) (Ex.skipS ?_)
        refine Ex.last (m := 0) (by simp (config := {decide := true}) only [RS, Nat.reduceAdd, g0, tStr, hlen, z3, z4, z6, z7]; rfl) ?_
        simp (config := {decide := true}) only [thenK, blockK, ite_true, ite_false, if_true, if_false]
        refine ⟨t.length, by simp only [List.length_cons] at hk'; omega, t, rfl, ?_, hc'.2, by simp only [List.length_cons] at hk'; omega, by simp (config := {decide := true}) only [RS, Nat.reduceAdd], by simp (config := {decide := true}) only [RS, Nat.reduceAdd, g1], by trivial⟩
        rw [← hu, List.dropWhile_cons_of_pos hd]
      | false =>
        rw [hd] at g12
        refine Ex.ifT (by simp (config := {decide := true}) only [RS, Nat.reduceAdd, g12] <;> rfl) (Ex.exitS ?_)
        simp (config := {decide := true}) only [thenK, blockK, ite_true, ite_false, if_true, if_false]
        refine ⟨?_, by trivial⟩
        rw [g0, ← hu, List.dropWhile_cons_of_neg (by rw [hd]; exact Bool.false_ne_true)]
  clear g0 g1
  rintro env ⟨M', N'⟩ ⟨g0, e1⟩
  dsimp only at e1
  subst e1
  (repeat refine Ex.assoc ?_); refine Ex.step (m := 0) (by simp (config := {decide := true}) only [RS, Nat.reduceAdd, g0]; rfl) ?_
  refine Ex.ret ⟨trivial, _, by simp (config := {decide := true}) only [RS, Nat.reduceAdd]; rfl, ?_, rfl⟩
  simp (config := {decide := true}) only [RS, Nat.reduceAdd]
def trimD (s : List Nat) : List Nat := (dropR s).dropWhile isDig
def zAscL : List AV := (List.range 256).map fun _ => .bool false
theorem zAscL_len : zAscL.length = 256 := by simp [zAscL]
theorem zAsc : zeroT Tryz.prog 295 = some zAscL := by kernel_rfl
theorem sAsc : sizeT Tryz.prog 295 = 256 := by kernel_rfl
theorem put_asc {M : PT Blk} {b nx : Nat} : putCells ⟨M.set b (.row zAscL false), nx⟩ b 0 ascL = some ⟨(M.set b (.row zAscL false)).set b (.row ascL false), nx⟩ := by
  unfold putCells
  simp only [PT.get_set, if_true]
  rw [if_pos ⟨by rw [ascL_len, zAscL_len]; exact Nat.le_refl _, by simp [ascL, AV.one]⟩]
  rw [List.take_zero, List.nil_append, List.drop_of_length_le (by rw [ascL_len, zAscL_len]; exact Nat.le_refl _), List.append_nil]
def zAscT : List AV := (List.range 254).map fun _ => .bool false
theorem zAscT_eq : AV.bool false :: AV.bool false :: zAscT = zAscL := by kernel_rfl
theorem zAsc' : zeroT Tryz.prog 295 = some (.bool false :: .bool false :: zAscT) := by rw [zAscT_eq]; exact zAsc
theorem put_asc' {M : PT Blk} {b nx : Nat} : putCells ⟨M.set b (.row (.bool false :: .bool false :: zAscT) false), nx⟩ b 0 ascL = some ⟨(M.set b (.row zAscL false)).set b (.row ascL false), nx⟩ := by rw [zAscT_eq]; exact put_asc
theorem fn_asc : fnE Tryz.prog 194 = some ⟨(Go.Proofs.Tryz.f194.body).getD .skip, 21, [.cell 2 295, .tmp 3]⟩ := by kernel_rfl
theorem fn_trim : fnE Tryz.prog 129 = some ⟨(Go.Proofs.Tryz.f129.body).getD .skip, 43, [.tmp 4]⟩ := by kernel_rfl
theorem trim_run {hk : Hooks} (B : BareT hk) {h : Hp} (hf : h.fr) {s : List Nat} (hc : s.all (Nat.blt · 256) = true) (hl : s.length < 1000000000000) (hne : s ≠ []) :
    ExF Tryz.prog hk 129 [.str s, .str dl] h fun r' h1 => r' = .str (trimD s) ∧ h.sub h1 := by
  have hne : (s == []) = false := by cases s with
    | nil => exact absurd rfl hne
    | cons a l => rfl
  have hdl : (dl == []) = false := rfl
  have hdl10 : ((dl.length : Nat) : Int) = 10 := rfl
  have e101 : ((10 : Int) == 1) = false := rfl
  refine ExF.body fn_trim (B.trim _ _) (by simp) ?_
  simp only [Go.Proofs.Tryz.f129, Option.getD_some]
  (repeat refine Ex.assoc ?_); refine Ex.step (m := 0) (by simp (config := {decide := true}) only [RS, Nat.reduceAdd, bytes_nil]; rfl) ?_
  (repeat refine Ex.assoc ?_); refine Ex.step (m := 0) (by simp (config := {decide := true}) only [RS, Nat.reduceAdd, bytes_nil, aStr, hne, hdl]; rfl) ?_
  refine Ex.forget fun E hE => ?_; have k0 := hE 0; simp (config := {decide := true}) only [RS, Nat.reduceAdd] at k0; have k1 := hE 1; simp (config := {decide := true}) only [RS, Nat.reduceAdd] at k1; have k12 := hE 12; simp (config := {decide := true}) only [RS, Nat.reduceAdd] at k12; clear hE; have g0 := k0; clear k0; have g1 := k1; clear k1; have g12 := k12; clear k12
  refine Ex.ifF (by simp (config := {decide := true}) only [RS, Nat.reduceAdd, g12] <;> rfl) (Ex.skipS ?_)
  (repeat refine Ex.assoc ?_); refine Ex.step (m := 0) (by simp (config := {decide := true}) only [RS, Nat.reduceAdd, g1, aLen, tStr, hdl10, e101]; rfl) ?_
  refine Ex.forget fun E hE => ?_; have k0 := hE 0; simp (config := {decide := true}) only [RS, Nat.reduceAdd, g0, g1, g12] at k0; have k1 := hE 1; simp (config := {decide := true}) only [RS, Nat.reduceAdd, g0, g1, g12] at k1; have k21 := hE 21; simp (config := {decide := true}) only [RS, Nat.reduceAdd, g0, g1, g12] at k21; clear hE g0 g1 g12; have g0 := k0; clear k0; have g1 := k1; clear k1; have g21 := k21; clear k21
  refine Ex.ifF (by simp (config := {decide := true}) only [RS, Nat.reduceAdd, g21] <;> rfl) (Ex.skipS ?_)
  have qa : ∀ nx, callF Tryz.prog hk 0 194 [.str dl] ⟨h.m, nx⟩ = some (.tup [.agg ascL, .bool true], ⟨h.m, nx⟩) := fun nx => callF_hk (B.asc _)
  have hn20 : h.m.get (h.nx + 20) = none := hf _ (by omega)
  (repeat refine Ex.assoc ?_); refine Ex.step (m := 0) (by simp (config := {decide := true}) only [RS, Nat.reduceAdd, g1, fn_asc, qa, zAsc', fresh, hn20, sAsc, ascL_len, put_asc']; rfl) ?_
  refine Ex.forget2 fun E hL hE hL_m hL_x => ?_; have k0 := hE 0; simp (config := {decide := true}) only [RS, Nat.reduceAdd, g0, g1, g21] at k0; have k5 := hE 5; simp (config := {decide := true}) only [RS, Nat.reduceAdd, g0, g1, g21] at k5; have k6 := hE 6; simp (config := {decide := true}) only [RS, Nat.reduceAdd, g0, g1, g21] at k6; clear hE g0 g1 g21; have g0 := k0; clear k0; have g5 := k5; clear k5; have g6 := k6; clear k6; dsimp only at hL_m hL_x
  obtain ⟨BB, hBB⟩ : ∃ b, b = h.nx + 20 := ⟨_, rfl⟩
  rw [← hBB] at g5 hL_m
  have hrow : hL.m.get BB = some (.row ascL false) := by rw [hL_m, PT.get_set, if_pos rfl]
  have hsub : ∀ nx, h.sub ⟨hL.m, nx⟩ := fun nx b x hb => by
    show hL.m.get b = some x
    rw [hL_m, PT.get_set, PT.get_set, if_neg, if_neg]
    · exact hb
    · intro e; rw [e, hBB, hn20] at hb; cases hb
    · intro e; rw [e, hBB, hn20] at hb; cases hb
  rcases hL with ⟨M, N⟩
  dsimp only at hrow hL_x hsub
  clear hL_m
  (repeat refine Ex.assoc ?_); refine Ex.step (m := 0) (by simp (config := {decide := true}) only [RS, Nat.reduceAdd, g6]; rfl) ?_
  refine Ex.forget fun E hE => ?_; have k0 := hE 0; simp (config := {decide := true}) only [RS, Nat.reduceAdd, g0, g5, g6] at k0; have k5 := hE 5; simp (config := {decide := true}) only [RS, Nat.reduceAdd, g0, g5, g6] at k5; have k34 := hE 34; simp (config := {decide := true}) only [RS, Nat.reduceAdd, g0, g5, g6] at k34; clear hE g0 g5 g6; have g0 := k0; clear k0; have g5 := k5; clear k5; have g34 := k34; clear k34
  refine Ex.ifT (by simp (config := {decide := true}) only [RS, Nat.reduceAdd, g34] <;> rfl) ?_
  obtain ⟨m1, N1, x1, q1⟩ := ExF.same B.grow (trimR_run B (N := N + 1 + 4) hrow hc hl)
  have hcR : (dropR s).all (Nat.blt · 256) = true := by
    rw [List.all_eq_true] at hc ⊢
    intro x hx
    unfold dropR at hx
    rw [List.mem_reverse] at hx
    exact hc x (List.mem_reverse.1 (List.dropWhile_sublist _ |>.mem hx))
  have hlR : (dropR s).length < 1000000000000 := by
    unfold dropR
    rw [List.length_reverse]
    have := (List.dropWhile_sublist isDig (l := s.reverse)).length_le
    rw [List.length_reverse] at this
    omega
  obtain ⟨m2, N2, x2, q2⟩ := ExF.same B.grow (trimL_run B (N := N1) hrow hcR hlR)
  have q1' := q1 (m1 + m2) (by omega)
  have q2' := q2 (m1 + m2) (by omega)
  obtain ⟨m3, hm3⟩ : ∃ m3, m3 = m1 + m2 := ⟨_, rfl⟩
  rw [← hm3] at q1' q2'
  (repeat refine Ex.assoc ?_); refine Ex.step (m := m3) (by simp (config := {decide := true}) only [RS, Nat.reduceAdd, g0, g5, fn_trimR, fn_trimL, q1', q2']; rfl) ?_
  refine Ex.retS ⟨trivial, _, by simp (config := {decide := true}) only [RS, Nat.reduceAdd]; rfl, ?_, hsub _⟩
  simp (config := {decide := true}) only [RS, Nat.reduceAdd]
  rfl
theorem fn_parse : fnE Tryz.prog 130 = some ⟨(Go.Proofs.Tryz.f130.body).getD .skip, 26, [.tmp 6, .tmp 7]⟩ := by kernel_rfl
theorem parse_run {hk : Hooks} (B : BareT hk) {h : Hp} (hf : h.fr) {s : List Nat} (hd : s.all isDig = true) (h1 : s ≠ []) (h9 : s.length ≤ 9) :
    ExF Tryz.prog hk 130 [.str s, .int .i64 10, .int .i64 32] h fun r' h1 => r' = .tup [.int .u64 (tv 0 s : Nat), .nili] ∧ h.sub h1 := by
  refine ExF.body fn_parse (B.parse _ _) (by simp) ?_
  simp only [Go.Proofs.Tryz.f130, Option.getD_some]
  (repeat refine Ex.assoc ?_); refine Ex.step (m := 0) (by simp (config := {decide := true}) only [RS, Nat.reduceAdd]; rfl) ?_
  obtain ⟨m1, v1, h1, q1, ⟨rfl, s1⟩, G1⟩ := ((parseI_run B.parseI (h := ⟨h.m, h.nx + 11⟩) (fun b hb => hf b (by simp only at hb; omega)) hd h1 h9).grow B.grow).lift
  have q1' := q1 m1 (Nat.le_refl _)
  (repeat refine Ex.assoc ?_); refine Ex.step (m := m1) (by simp (config := {decide := true}) only [RS, Nat.reduceAdd, fn_parseI, q1']; rfl) ?_
  refine Ex.forget fun E hE => ?_; have k8 := hE 8; simp (config := {decide := true}) only [RS, Nat.reduceAdd] at k8; have k9 := hE 9; simp (config := {decide := true}) only [RS, Nat.reduceAdd] at k9; clear hE; have g8 := k8; clear k8; have g9 := k9; clear k9
  (repeat refine Ex.assoc ?_); refine Ex.step (m := 0) (by simp (config := {decide := true}) only [RS, Nat.reduceAdd, g9]; rfl) ?_
  refine Ex.forget fun E hE => ?_; have k8 := hE 8; simp (config := {decide := true}) only [RS, Nat.reduceAdd, g8, g9] at k8; have k18 := hE 18; simp (config := {decide := true}) only [RS, Nat.reduceAdd, g8, g9] at k18; clear hE g8 g9; have g8 := k8; clear k8; have g18 := k18; clear k18
  refine Ex.ifF (by simp (config := {decide := true}) only [RS, Nat.reduceAdd, g18] <;> rfl) (Ex.skipS ?_)
  (repeat refine Ex.assoc ?_); refine Ex.step (m := 0) (by simp (config := {decide := true}) only [RS, Nat.reduceAdd, g8]; rfl) ?_
  refine Ex.ret ⟨trivial, _, by simp (config := {decide := true}) only [RS, Nat.reduceAdd]; rfl, ?_, s1⟩
  simp (config := {decide := true}) only [RS, Nat.reduceAdd]
end Go.Vk
set_option linter.unusedSimpArgs false
set_option linter.unusedVariables false
set_option maxRecDepth 100000
set_option maxHeartbeats 4000000
namespace Go.Vk
open Go.Proofs (Tryz.prog)
theorem close_le {c c' : Cx} {S T : List Nat} (h : ∀ b ∈ S, b ∈ T) : (c.close c' S).le (c.close c' T) :=
  ⟨fun b hb => ⟨hb, rfl⟩, fun k hk => ⟨by
    rcases hk with hk | ⟨b, hb, e⟩
    · exact .inl hk
    · exact .inr ⟨b, h b hb, e⟩, rfl⟩, fun k cs e fr hk => ⟨cs, fr, hk, rfl⟩⟩
theorem closes_trip {c c2 : Cx} {h h2 h' : Hp} {v r w s : AV} {b : Bool} (H : Closes c h c2 h2 h' v r) (K : Closes c h c2 h2 h' w s) : Closes c h c2 h2 h' (.tup [v, w, .bool b]) (.tup [r, s, .bool b]) := by
  obtain ⟨S, hS, hcl⟩ := H
  obtain ⟨T, hT, hcm⟩ := K
  refine ⟨S ++ T, fun b hb => ?_, fun c' x g1 g2 g3 => ?_⟩
  · rcases List.mem_append.1 hb with h0 | h0
    · exact hS b h0
    · exact hT b h0
  simp only [VR, VRL] at g3 ⊢
  obtain ⟨vs, rfl, y, ys, e1, h1, z, zs, e2, h2, u, us, e3, h3, e4⟩ := g3
  exact ⟨vs, rfl, y, ys, e1, VR.mono (close_le fun b hb => List.mem_append_left _ hb) _ _ (hcl c' y g1 g2 h1), z, zs, e2, VR.mono (close_le fun b hb => List.mem_append_right _ hb) _ _ (hcm c' z g1 g2 h2), u, us, e3, h3, e4⟩
/-- A number of the zone, or none. -/
def numO : AV → Option Nat
  | .opq (.nat n) => if Nat.log2 n < 100000000000 then some n else none
  | .nilp => some 0
  | _ => none
theorem open_numO {c : Cx} {h : Hp} (hr : Rel c h) {v : AV} {x : Value} (hv : VR c v x) {n : Nat} (hn : numO v = some n) :
    ∃ c2 h2 v2 ds bs, Opens c h c2 h2 ∧ VR c2 v2 x ∧ NumAt h2 v2 ds bs ∧ digOk ds ∧ ds.length < 5000000000 ∧ digVal ds = n ∧ ∀ b ∈ bs, h2.m.get b ≠ none ∧ h.m.get b = none := by
  unfold numO at hn
  split at hn
  · rename_i m
    split at hn
    · rename_i hm
      injection hn with hn; subst hn
      obtain ⟨c2, h2, a, ds, bs, g1, g2, g3, g4, g5, g6⟩ := open_nat hr hv
      obtain ⟨b, o, cells, ro, sl, bs', rfl, rfl, k1, k2, k3⟩ := g3
      refine ⟨c2, h2, _, ds, bs', g1, g2, ⟨sl, ?_, k3⟩, g4, digVal_len g4 (by rw [g5]; exact hm), g5, fun b hb => g6 b (List.mem_cons_of_mem _ hb)⟩
      have hc : cellAt h2 b o = some sl := by unfold cellAt; rw [k1]; exact k2
      unfold digitsA
      simp only
      rw [hc]
      rcases k3 with ⟨_, _, rfl | rfl⟩ | ⟨rb, off, cap, ex, _, rfl, _⟩ <;> rfl
    · cases hn
  · injection hn with hn; subst hn
    exact ⟨c, h, .nilp, [], [], Opens.refl hr, hv, ⟨.nils, rfl, .inl ⟨rfl, rfl, .inl rfl⟩⟩, ⟨by simp, by simp⟩, by simp, rfl, by simp⟩
  · cases hn
theorem open_twoO {c : Cx} {h : Hp} (hr : Rel c h) {va vb : AV} {vs : List Value} (hv : VRL c [va, vb] vs) {a b : Nat} (ha : numO va = some a) (hb : numO vb = some b) :
    ∃ c2 h2 wa wb da db ba bb, Opens c h c2 h2 ∧ VRL c2 [wa, wb] vs ∧ NumAt h2 wa da ba ∧ NumAt h2 wb db bb ∧ digOk da ∧ digOk db ∧ da.length < 5000000000 ∧ db.length < 5000000000 ∧ digVal da = a ∧ digVal db = b ∧
      (∀ b ∈ ba, h2.m.get b ≠ none ∧ h.m.get b = none) ∧ (∀ b ∈ bb, h2.m.get b ≠ none ∧ h.m.get b = none) := by
  simp only [VRL] at hv
  obtain ⟨x, xs, rfl, hx, y, ys, rfl, hy, rfl⟩ := hv
  obtain ⟨c1, h1, wa, da, ba, o1, q1, q2, q3, q4, q5, q6⟩ := open_numO hr hx ha
  obtain ⟨c2, h2, wb, db, bb, o2, r1, r2, r3, r4, r5, r6⟩ := open_numO o1.rel (VR.mono o1.le _ _ hy) hb
  refine ⟨c2, h2, wa, wb, da, db, ba, bb, o1.trans o2, by simp only [VRL]; exact ⟨_, _, rfl, VR.mono o2.le _ _ q1, _, _, rfl, r1, rfl⟩, q2.sub o2.sub, r2, q3, r3, q4, r4, q5, r5, fun b hb => ⟨?_, (q6 b hb).2⟩, fun b hb => ⟨(r6 b hb).1, ?_⟩⟩
  · cases hg : h1.m.get b with
    | none => exact absurd hg (q6 b hb).1
    | some y => rw [o2.sub b y hg]; exact fun h => by cases h
  · cases hg : h.m.get b with
    | none => rfl
    | some y => have := (r6 b hb).2; rw [o1.sub b y hg] at this; cases this
theorem open_oneO {c : Cx} {h : Hp} (hr : Rel c h) {va : AV} {vs : List Value} (hv : VRL c [va] vs) {a : Nat} (ha : numO va = some a) :
    ∃ c2 h2 wa da ba, Opens c h c2 h2 ∧ VRL c2 [wa] vs ∧ NumAt h2 wa da ba ∧ digOk da ∧ da.length < 5000000000 ∧ digVal da = a := by
  simp only [VRL] at hv
  obtain ⟨x, xs, rfl, hx, rfl⟩ := hv
  obtain ⟨c1, h1, wa, da, ba, o1, q1, q2, q3, q4, q5, q6⟩ := open_numO hr hx ha
  exact ⟨c1, h1, wa, da, ba, o1, by simp only [VRL]; exact ⟨_, _, rfl, q1, rfl⟩, q2, q3, q4, q5⟩
def oneO (g : Nat → Option AV) : List AV → Option AV
  | [va] => match numO va with
    | some a => g a
    | none => none
  | _ => none
def twoO (g : Nat → Nat → Option AV) : List AV → Option AV
  | [va, vb] => match numO va, numO vb with
    | some a, some b => g a b
    | _, _ => none
  | _ => none
theorem oneO_some {g : Nat → Option AV} {args : List AV} {r : AV} (hh : oneO g args = some r) : ∃ va a, args = [va] ∧ numO va = some a ∧ g a = some r := by
  unfold oneO at hh
  split at hh
  · rename_i va
    split at hh
    · rename_i a ha; exact ⟨va, a, rfl, ha, hh⟩
    · cases hh
  · cases hh
theorem twoO_some {g : Nat → Nat → Option AV} {args : List AV} {r : AV} (hh : twoO g args = some r) : ∃ va vb a b, args = [va, vb] ∧ numO va = some a ∧ numO vb = some b ∧ g a b = some r := by
  unfold twoO at hh
  split at hh
  · rename_i va vb
    split at hh
    · rename_i a b ha hb; exact ⟨va, vb, a, b, rfl, ha, hb, hh⟩
    · cases hh
  · cases hh
/-! ### the set of the digits -/
def gA : FuncId → List AV → Hp → Option AV := fun f args h =>
  if f = 194 then match args with
    | [.str s] => if s = dl then some (.tup [.agg ascL, .bool true]) else none
    | _ => none
  else none
theorem ascL_flat : (AV.tup [.agg ascL, .bool true]).flatD = true := by decide
theorem gA_ok : ∀ f args h r, gA f args h = some r → PureOK Tryz.prog f args h r := by
  intro f args h r hh
  unfold gA at hh
  split at hh
  · rename_i hf
    subst hf
    split at hh
    · rename_i s
      split at hh
      · rename_i hs
        subst hs
        injection hh with hh; subst hh
        have h0 := asc0
        rw [Option.map_eq_some_iff] at h0
        obtain ⟨⟨r, h1⟩, h2, h3⟩ := h0
        simp only at h3; subst h3
        exact memo_ok prog_mixed noHk_ok noHk_dom h2 rfl rfl ascL_flat Tables.leaf
      · cases hh
    · cases hh
  · cases hh
abbrev hkA : Hooks := pureHk gA
theorem hkA_ok : CallOK Tryz.prog hkA := pureHk_ok gA_ok
theorem bareA : BareT hkA := ⟨pureHk_grow, fun _ _ => rfl, fun _ _ => rfl, fun _ _ => rfl, fun _ _ => rfl, fun _ _ => rfl, fun _ _ => rfl, fun h => pureHk_some (by simp (config := {decide := true}) only [gA, if_true])⟩
/-! ### numbers and texts -/
abbrev hkT : Hooks := orHk hk1 (pureHk gS)
theorem hkT_ok : CallOK Tryz.prog hkT := orHk_ok hk1_ok (pureHk_ok gS_ok)
theorem hkT_dom : DomOK hkT := orHk_dom hk1_dom pureHk_dom
theorem bareTt : Bare hkT := {
  digits := fun h v r hh => by simp (config := {decide := true}) only [hkT, orHk, base1.digits h v r hh]
  at' := fun h sl i r hh => by simp (config := {decide := true}) only [hkT, orHk, base1.at' h sl i r hh]
  of := fun a h => rfl
  cmp := fun h va vb a b ha hb => by have := base1.cmp h va vb a b ha hb; unfold hkT orHk; unfold orHk at this; rw [this]
  grow := orHk_grow (orHk_grow pureHk_grow pureHk_grow) pureHk_grow
  len := fun a h => rfl
  zeros := fun a h => rfl
  twos := fun a h => rfl
  up := fun a h => rfl
  down := fun a h => rfl
  short := fun a h => rfl
  Of := fun a h => rfl
  step := fun a h => rfl
  less := fun a h => rfl
  common := fun a h => rfl
  word := fun a h => rfl
  div := fun a h => rfl
  shifts := fun a h => rfl
  gcd := fun a h => rfl }
theorem orHk_right {a b : Hooks} {f : FuncId} {args : List AV} {h : Hp} (h1 : a f args h = none) : orHk a b f args h = b f args h := by unfold orHk; rw [h1]
theorem baseST : BaseS hkT := ⟨fun h x hx hp => (orHk_right rfl).trans (baseS0.fmt h x hx hp), fun h k hk => (orHk_right rfl).trans (baseS0.rep h k hk)⟩
end Go.Vk
set_option linter.unusedSimpArgs false
set_option linter.unusedVariables false
set_option maxRecDepth 100000
set_option maxHeartbeats 4000000
namespace Go.Vk
open Go.Proofs (Tryz.prog)
def trimOk (s d : List Nat) : Bool := s.all (Nat.blt · 256) && Nat.blt s.length 1000000000000 && Nat.blt 0 s.length && decide (d = dl)
theorem trimOk_iff {s d : List Nat} (h : trimOk s d = true) : s.all (Nat.blt · 256) = true ∧ s.length < 1000000000000 ∧ s ≠ [] ∧ d = dl := by
  simp only [trimOk, Bool.and_eq_true, Nat.blt_eq, decide_eq_true_eq] at h
  exact ⟨h.1.1.1, h.1.1.2, fun e => by rw [e] at h; simp at h, h.2⟩
def parseOk (s : List Nat) (b w : Int) : Bool := s.all isDig && Nat.ble s.length 9 && Nat.blt 0 s.length && decide (b = 10) && decide (w = 32)
theorem parseOk_iff {s : List Nat} {b w : Int} (h : parseOk s b w = true) : s.all isDig = true ∧ s ≠ [] ∧ s.length ≤ 9 ∧ b = 10 ∧ w = 32 := by
  simp only [parseOk, Bool.and_eq_true, Nat.blt_eq, Nat.ble_eq, decide_eq_true_eq] at h
  exact ⟨h.1.1.1.1, fun e => by rw [e] at h; simp at h, h.1.1.1.2, h.1.2, h.2⟩
def g3 : FuncId → List AV → Hp → Option AV := fun f args h =>
  if f = 132 then oneO (fun a => some (.int .i64 (blen a : Nat))) args
  else if f = 135 then twoO (fun a b => some (.opq (.nat (Nat.gcd a b)))) args
  else if f = 136 then twoO (fun a b => some (if b = 0 then .tup [.nilp, .nilp, .bool false] else .tup [.opq (.nat (a / b)), .opq (.nat (a % b)), .bool true])) args
  else if f = 81 then (if hasPow h = true then oneO (fun a => some (.str (dec a))) args else none)
  else if f = 108 then match args with
    | [.nils] => some (.opq (.nat 0))
    | _ => none
  else if f = 129 then match args with
    | [.str s, .str d] => if trimOk s d = true then some (.str (trimD s)) else none
    | _ => none
  else if f = 130 then match args with
    | [.str s, .int .i64 b, .int .i64 w] => if parseOk s b w = true then some (.tup [.int .u64 (tv 0 s : Nat), .nili]) else none
    | _ => none
  else none
theorem closes_flatD {c c2 : Cx} {h2 h' h : Hp} {v : AV} (hf : v.flatD = true) : Closes c h c2 h2 h' v v := ⟨[], by simp, fun c' x _ _ hx => VR.flatD hf hx⟩
theorem g3_ok : ∀ f args h r, g3 f args h = some r → PureOK Tryz.prog f args h r := by
  intro f args h r hh c vs hr hgl hv
  unfold g3 at hh
  split at hh
  · rename_i hf
    subst hf
    obtain ⟨va, a, rfl, ha, hg⟩ := oneO_some hh
    injection hg with hg; subst hg
    obtain ⟨c2, h2, wa, da, ba, ho, p1, p2, p3, p4, rfl⟩ := open_oneO hr hv ha
    refine pure_of_run prog_mixed hkT_ok hkT_dom hr hgl ho p1 ?_
    obtain ⟨n, r', h1, q1, rfl, q2⟩ := bits_run bareTt.toBase (fun _ _ => rfl) (fun _ _ => rfl) p2 p3 (by omega)
    exact ⟨n, _, h1, q1, same_pure ho q2 rfl⟩
  split at hh
  · rename_i hf
    subst hf
    obtain ⟨va, vb, a, b, rfl, ha, hb, hg⟩ := twoO_some hh
    injection hg with hg; subst hg
    obtain ⟨c2, h2, wa, wb, da, db, ba, bb, ho, p1, p2, p3, p4, p5, p6, p7, rfl, rfl, p8, p9⟩ := open_twoO hr hv ha hb
    refine pure_of_run prog_mixed hkT_ok hkT_dom hr hgl ho p1 ?_
    obtain ⟨LL, hLL⟩ : ∃ L, L = max da.length db.length := ⟨_, rfl⟩
    have hla : digVal da < 4294967296 ^ LL := Nat.lt_of_lt_of_le (digVal_lt p4.1) (Nat.pow_le_pow_right (by omega) (by omega))
    have hlb : digVal db < 4294967296 ^ LL := Nat.lt_of_lt_of_le (digVal_lt p5.1) (Nat.pow_le_pow_right (by omega) (by omega))
    obtain ⟨n, r', h1, q1, q2⟩ := gcd_run bareTt ho.rel.fr p2 p3 p4 p5 (LL := LL) (by omega) hla hlb
    exact ⟨n, _, h1, q1, closes_made ho q2 (fun b hb => (List.mem_append.1 hb).elim (p8 b) (p9 b))⟩
  split at hh
  · rename_i hf
    subst hf
    obtain ⟨va, vb, a, b, rfl, ha, hb, hg⟩ := twoO_some hh
    injection hg with hg; subst hg
    obtain ⟨c2, h2, wa, wb, da, db, ba, bb, ho, p1, p2, p3, p4, p5, p6, p7, rfl, rfl, p8, p9⟩ := open_twoO hr hv ha hb
    refine pure_of_run prog_mixed hkT_ok hkT_dom hr hgl ho p1 ?_
    obtain ⟨n, r', h1, q1, q2⟩ := div_run bareTt.grow bareTt.toBase2 bareTt.len bareTt.up bareTt.down bareTt.short bareTt.Of bareTt.step bareTt.div ho.rel.fr p2 p3 p4 p5 p6 p7
    split at q2
    · rename_i h0
      obtain ⟨rfl, q3⟩ := q2
      rw [if_pos h0]
      exact ⟨n, _, h1, q1, fun b x hb => by rw [q3]; exact ho.sub _ _ hb, closes_flatD rfl⟩
    · rename_i h0
      obtain ⟨q, r, rfl, q3, q4⟩ := q2
      rw [if_neg h0]
      obtain ⟨k1, k2⟩ := closes_made ho q3 (fun b hb => by cases hb)
      obtain ⟨k3, k4⟩ := closes_made ho q4 p8
      exact ⟨n, _, h1, q1, k1, closes_trip k2 k4⟩
  split at hh
  · rename_i hf
    subst hf
    split at hh
    · rename_i hp
      obtain ⟨va, a, rfl, ha, hg⟩ := oneO_some hh
      injection hg with hg; subst hg
      obtain ⟨c2, h2, wa, da, ba, ho, p1, p2, p3, p4, rfl⟩ := open_oneO hr hv ha
      refine pure_of_run prog_mixed hkT_ok hkT_dom hr hgl ho p1 ?_
      obtain ⟨n, r', h1, q1, rfl, q2⟩ := text_run bareTt (fun _ _ => rfl) baseST ho.rel.fr (hasPow_sub ho.sub hp) p2 p3 p4
      exact ⟨n, _, h1, q1, ho.sub.trans q2, closes_flat rfl⟩
    · cases hh
  split at hh
  · rename_i hf
    subst hf
    split at hh
    · injection hh with hh; subst hh
      refine pure_of_run prog_mixed hkT_ok hkT_dom hr hgl (Opens.refl hr) hv ?_
      obtain ⟨n, r', h1, q1, q2⟩ := of_nil_run (hk := hkT) (fun _ _ => rfl) hr.fr (.inl rfl)
      exact ⟨n, _, h1, q1, closes_made (Opens.refl hr) q2 (fun b hb => by cases hb)⟩
    · cases hh
  split at hh
  · rename_i hf
    subst hf
    split at hh
    · rename_i s d
      split at hh
      · rename_i ht
        injection hh with hh; subst hh
        obtain ⟨k1, k2, k3, rfl⟩ := trimOk_iff ht
        refine pure_of_run prog_mixed hkA_ok pureHk_dom hr hgl (Opens.refl hr) hv ?_
        obtain ⟨n, r', h1, q1, rfl, q2⟩ := trim_run bareA hr.fr k1 k2 k3
        exact ⟨n, _, h1, q1, q2, closes_flat rfl⟩
      · cases hh
    · cases hh
  split at hh
  · rename_i hf
    subst hf
    split at hh
    · rename_i s b w
      split at hh
      · rename_i ht
        injection hh with hh; subst hh
        obtain ⟨k1, k2, k3, rfl, rfl⟩ := parseOk_iff ht
        refine pure_of_run prog_mixed hkA_ok pureHk_dom hr hgl (Opens.refl hr) hv ?_
        obtain ⟨n, r', h1, q1, rfl, q2⟩ := parse_run bareA hr.fr k1 k2 k3
        exact ⟨n, _, h1, q1, q2, closes_flatD rfl⟩
      · cases hh
    · cases hh
  cases hh
end Go.Vk
set_option linter.unusedSimpArgs false
set_option linter.unusedVariables false
set_option maxRecDepth 100000
set_option maxHeartbeats 4000000
namespace Go.Vk
open Go.Proofs (Tryz.prog)
abbrev hkN : Hooks := orHk (orHk (pureHk g1) (pureHk g2)) (orHk (pureHk g3) (pureHk gS))
theorem hkN_ok : CallOK Tryz.prog hkN := orHk_ok (orHk_ok (pureHk_ok g1_ok) (pureHk_ok g2_ok)) (orHk_ok (pureHk_ok g3_ok) (pureHk_ok gS_ok))
theorem hkN_dom : DomOK hkN := orHk_dom (orHk_dom pureHk_dom pureHk_dom) (orHk_dom pureHk_dom pureHk_dom)
theorem hkN_grow : GrowOK hkN := orHk_grow (orHk_grow pureHk_grow pureHk_grow) (orHk_grow pureHk_grow pureHk_grow)
def szOk (n : Nat) : Prop := Nat.log2 n < 100000000000
/-- What is used of the numbers' hooks. -/
structure NatHk (hk : Hooks) : Prop where
  grow : GrowOK hk
  bits : ∀ {h : Hp} {a : Nat}, szOk a → hk 132 [.opq (.nat a)] h = some (.int .i64 (blen a : Nat), h)
  gcd : ∀ {h : Hp} {a b : Nat}, szOk a → szOk b → hk 135 [.opq (.nat a), .opq (.nat b)] h = some (.opq (.nat (Nat.gcd a b)), h)
  div : ∀ {h : Hp} {a b : Nat}, szOk a → szOk b → 0 < b → hk 136 [.opq (.nat a), .opq (.nat b)] h = some (.tup [.opq (.nat (a / b)), .opq (.nat (a % b)), .bool true], h)
  text : ∀ {h : Hp} {a : Nat}, szOk a → hasPow h = true → hk 81 [.opq (.nat a)] h = some (.str (dec a), h)
  ofn : ∀ {h : Hp}, hk 108 [.nils] h = some (.opq (.nat 0), h)
  trim : ∀ {h : Hp} {s : List Nat}, trimOk s dl = true → hk 129 [.str s, .str dl] h = some (.str (trimD s), h)
  parse : ∀ {h : Hp} {s : List Nat}, parseOk s 10 32 = true → hk 130 [.str s, .int .i64 10, .int .i64 32] h = some (.tup [.int .u64 (tv 0 s : Nat), .nili], h)
  Of : ∀ {h : Hp} {a : Nat}, a < 18446744073709551616 → hk 75 [.int .u64 (a : Nat)] h = some (.opq (.nat a), h)
  less : ∀ {h : Hp} {a b : Nat}, szOk a → szOk b → hk 134 [.opq (.nat a), .opq (.nat b)] h = some (if a < b then .tup [.nilp, .bool false] else .tup [.opq (.nat (a - b)), .bool true], h)
  cmp : ∀ {h : Hp} {a b : Nat}, szOk a → szOk b → hk 92 [.opq (.nat a), .opq (.nat b)] h = some (.int .i64 (cmpN a b), h)
  add : ∀ {h : Hp} {a b : Nat}, szOk a → szOk b → hk 131 [.opq (.nat a), .opq (.nat b)] h = some (.opq (.nat (a + b)), h)
  mul : ∀ {h : Hp} {a b : Nat}, szOk a → szOk b → hk 94 [.opq (.nat a), .opq (.nat b)] h = some (.opq (.nat (a * b)), h)
theorem orHk_left {a b : Hooks} {f : FuncId} {args : List AV} {h : Hp} {r : AV × Hp} (h1 : a f args h = some r) : orHk a b f args h = some r := by unfold orHk; rw [h1]
theorem numO_ok {a : Nat} (h : szOk a) : numO (.opq (.nat a)) = some a := by unfold numO; simp only; exact if_pos h
theorem numA_ok {hp : Hp} {a : Nat} (h : szOk a) : numA hp (.opq (.nat a)) = some a := by unfold numA; simp only; exact if_pos h
theorem oneO_ok {g : Nat → Option AV} {a : Nat} (h : szOk a) : oneO g [.opq (.nat a)] = g a := by unfold oneO; simp only; rw [numO_ok h]
theorem twoO_ok {g : Nat → Nat → Option AV} {a b : Nat} (h : szOk a) (k : szOk b) : twoO g [.opq (.nat a), .opq (.nat b)] = g a b := by unfold twoO; simp only; rw [numO_ok h, numO_ok k]
theorem two_ok {hp : Hp} {g : Nat → Nat → Option AV} {a b : Nat} (h : szOk a) (k : szOk b) : two hp g [.opq (.nat a), .opq (.nat b)] = g a b := by unfold two; simp only; rw [numA_ok h, numA_ok k]
theorem g3_hkN {f : FuncId} {args : List AV} {h : Hp} {r : AV} (h0 : orHk (pureHk g1) (pureHk g2) f args h = none) (h1 : g3 f args h = some r) : hkN f args h = some (r, h) :=
  (orHk_right h0).trans (orHk_left (pureHk_some h1))
theorem g2_hkN {f : FuncId} {args : List AV} {h : Hp} {r : AV} (h0 : pureHk g1 f args h = none) (h1 : g2 f args h = some r) : hkN f args h = some (r, h) :=
  orHk_left ((orHk_right h0).trans (pureHk_some h1))
theorem g1_hkN {f : FuncId} {args : List AV} {h : Hp} {r : AV} (h1 : g1 f args h = some r) : hkN f args h = some (r, h) :=
  orHk_left (orHk_left (pureHk_some h1))
theorem natHkN : NatHk hkN := {
  grow := hkN_grow
  bits := fun ha => g3_hkN rfl (by unfold g3; rw [if_pos rfl, oneO_ok ha])
  gcd := fun ha hb => g3_hkN rfl (by unfold g3; rw [if_neg (by decide), if_pos rfl, twoO_ok ha hb])
  div := fun ha hb h0 => g3_hkN rfl (by unfold g3; rw [if_neg (by decide), if_neg (by decide), if_pos rfl, twoO_ok ha hb, if_neg (by omega)])
  text := fun ha hp => g3_hkN rfl (by unfold g3; rw [if_neg (by decide), if_neg (by decide), if_neg (by decide), if_pos rfl, if_pos hp, oneO_ok ha])
  ofn := g3_hkN rfl (by unfold g3; rw [if_neg (by decide), if_neg (by decide), if_neg (by decide), if_neg (by decide), if_pos rfl])
  trim := fun ht => g3_hkN rfl (by unfold g3; rw [if_neg (by decide), if_neg (by decide), if_neg (by decide), if_neg (by decide), if_neg (by decide), if_pos rfl]; simp only; rw [if_pos ht])
  parse := fun ht => g3_hkN rfl (by unfold g3; rw [if_neg (by decide), if_neg (by decide), if_neg (by decide), if_neg (by decide), if_neg (by decide), if_neg (by decide), if_pos rfl]; simp only; rw [if_pos ht])
  Of := fun {h a} ha => g2_hkN rfl (by unfold g2; rw [if_pos rfl]; simp only; rw [if_pos (by omega), Int.toNat_natCast])
  less := fun ha hb => g2_hkN rfl (by unfold g2; rw [if_neg (by decide), if_pos rfl, two_ok ha hb])
  cmp := fun ha hb => g1_hkN (by unfold g1; rw [if_pos rfl, two_ok ha hb])
  add := fun ha hb => g1_hkN (by unfold g1; rw [if_neg (by decide), if_pos rfl, two_ok ha hb])
  mul := fun ha hb => g1_hkN (by unfold g1; rw [if_neg (by decide), if_neg (by decide), if_pos rfl, two_ok ha hb]) }
/-! ### texts of digits -/
theorem dropWhile_nil {p : Nat → Bool} : ∀ {l : List Nat}, l.dropWhile p = [] ↔ l.all p = true
  | [] => by simp
  | a :: l => by
    rw [List.dropWhile_cons, List.all_cons]
    cases h : p a with
    | true => simp only [if_true, Bool.true_and]; exact dropWhile_nil
    | false => simp
theorem all_reverse' {p : Nat → Bool} {l : List Nat} : l.reverse.all p = l.all p := by
  rw [Bool.eq_iff_iff, List.all_eq_true, List.all_eq_true]
  exact ⟨fun h x hx => h x (List.mem_reverse.2 hx), fun h x hx => h x (List.mem_reverse.1 hx)⟩
theorem trimD_nil {s : List Nat} : trimD s = [] ↔ s.all isDig = true := by
  unfold trimD
  rw [dropWhile_nil]
  unfold dropR
  rw [all_reverse']
  constructor
  · intro h
    rw [← all_reverse', ← dropWhile_nil]
    cases hd : s.reverse.dropWhile isDig with
    | nil => rfl
    | cons a l =>
      rw [hd, List.all_cons, Bool.and_eq_true] at h
      have h2 := List.head?_dropWhile_not (p := isDig) (l := s.reverse)
      rw [hd] at h2
      simp [h.1] at h2
  · intro h
    rw [← all_reverse', ← dropWhile_nil] at h
    rw [h]; rfl
theorem tv_sz {s : List Nat} (h : s.all isDig = true) (hl : s.length < 10000000000) : szOk (tv 0 s) := by
  have h1 := tv_lt s h
  have h2 : 10 ^ s.length ≤ 2 ^ (4 * s.length) := by rw [Nat.pow_mul]; exact Nat.pow_le_pow_left (by omega) _
  unfold szOk
  by_cases h0 : tv 0 s = 0
  · rw [h0]; decide
  · have := (Nat.log2_lt h0).2 (Nat.lt_of_lt_of_le h1 h2)
    omega
theorem szOk_lt {n k : Nat} (h : n < 2 ^ k) (hk : k < 100000000000) : szOk n := by
  unfold szOk
  by_cases h0 : n = 0
  · rw [h0]; decide
  · have := (Nat.log2_lt h0).2 h
    omega
end Go.Vk
set_option linter.unusedSimpArgs false
set_option linter.unusedVariables false
set_option maxRecDepth 100000
set_option maxHeartbeats 4000000
namespace Go.Vk
open Go.Proofs (Tryz.prog)
def getBad (s : List Nat) : Bool := (s == []) || Nat.blt 2000 s.length || (Nat.blt 1 s.length && s.head? == some 48) || !s.all isDig
theorem blt_t {a b : Nat} (h : a < b) : Nat.blt a b = true := by rw [Nat.blt_eq]; exact h
theorem blt_f {a b : Nat} (h : ¬ a < b) : Nat.blt a b = false := by rw [← Bool.not_eq_true, Nat.blt_eq]; exact h
theorem fn_get : fnE Tryz.prog 88 = some ⟨(Go.Proofs.Tryz.f88.body).getD .skip, 55, [.tmp 2, .tmp 3]⟩ := by kernel_rfl
theorem fn_Trim : ∃ e, fnE Tryz.prog 129 = some e := ⟨_, fn_trim⟩
theorem get_run {hk : Hooks} (B : NatHk hk) (hn : ∀ a h, hk 88 a h = none) {h : Hp} {s : List Nat} (hc : s.all (Nat.blt · 256) = true) (hl : s.length < 1000000000000) :
    ExF Tryz.prog hk 88 [.str s] h fun r' h1 => r' = (if getBad s = true then .tup [.nilp, .bool false] else .tup [.opq (.nat (tv 0 s)), .bool true]) ∧ h1.m = h.m := by
  refine ExF.body fn_get (hn _ _) (by simp) ?_
  simp only [Go.Proofs.Tryz.f88, Option.getD_some]
  (repeat refine Ex.assoc ?_); refine Ex.step (m := 0) (by simp (config := {decide := true}) only [RS, Nat.reduceAdd]; rfl) ?_
  refine Ex.forget fun E hE => ?_; have k0 := hE 0; simp (config := {decide := true}) only [RS, Nat.reduceAdd] at k0; clear hE; have g0 := k0; clear k0
  by_cases h0 : s = []
  · subst h0
    have e0 : (([] : List Nat) == []) = true := rfl
    (repeat refine Ex.assoc ?_); refine Ex.step (m := 0) (by simp (config := {decide := true}) only [RS, Nat.reduceAdd, g0, bytes_nil, aStr, e0]; rfl) ?_
    refine Ex.forget fun E hE => ?_; have k29 := hE 29; simp (config := {decide := true}) only [RS, Nat.reduceAdd, g0] at k29; clear hE g0; have g29 := k29; clear k29
    refine Ex.ifT (by simp (config := {decide := true}) only [RS, Nat.reduceAdd, g29] <;> rfl) ?_
    (repeat refine Ex.assoc ?_); refine Ex.step (m := 0) (by simp (config := {decide := true}) only [RS, Nat.reduceAdd]; rfl) ?_
    refine Ex.retS ⟨trivial, _, by simp (config := {decide := true}) only [RS, Nat.reduceAdd]; rfl, ?_, rfl⟩
    simp (config := {decide := true}) only [RS, Nat.reduceAdd, getBad]
  have e0 : (s == []) = false := by cases s with
    | nil => exact absurd rfl h0
    | cons a l => rfl
  by_cases h2 : 2000 < s.length
  · have d2 : ((s.length : Nat) : Int) > 2000 := by omega
    (repeat refine Ex.assoc ?_); refine Ex.step (m := 0) (by simp (config := {decide := true}) only [RS, Nat.reduceAdd, g0, bytes_nil, aStr, e0, aLen, tStr, d2]; rfl) ?_
    refine Ex.forget fun E hE => ?_; have k29 := hE 29; simp (config := {decide := true}) only [RS, Nat.reduceAdd, g0] at k29; clear hE g0; have g29 := k29; clear k29
    refine Ex.ifT (by simp (config := {decide := true}) only [RS, Nat.reduceAdd, g29] <;> rfl) ?_
    (repeat refine Ex.assoc ?_); refine Ex.step (m := 0) (by simp (config := {decide := true}) only [RS, Nat.reduceAdd]; rfl) ?_
    refine Ex.retS ⟨trivial, _, by simp (config := {decide := true}) only [RS, Nat.reduceAdd]; rfl, ?_, rfl⟩
    have hb : getBad s = true := by unfold getBad; rw [blt_t h2]; simp
    rw [if_pos hb]
    rfl
  have d2 : ¬ ((s.length : Nat) : Int) > 2000 := by omega
  obtain ⟨c, u, rfl⟩ : ∃ c u, s = c :: u := by cases s with
    | nil => exact absurd rfl h0
    | cons a l => exact ⟨a, l, rfl⟩
  obtain ⟨L, hL⟩ : ∃ L, L = (c :: u).length := ⟨_, rfl⟩
  have hL' : L = u.length + 1 := hL
  rw [hL.symm] at d2 h2
  by_cases h3 : 1 < L ∧ c = 48
  · have d3 : ((u.length + 1 : Nat) : Int) > 1 := by omega
    have d2' : ¬ ((u.length + 1 : Nat) : Int) > 2000 := by omega
    obtain ⟨_, rfl⟩ := h3
    have e48 : (((48 : Nat) : Int) == 48) = true := rfl
    (repeat refine Ex.assoc ?_); refine Ex.step (m := 0) (by simp (config := {decide := true}) only [RS, Nat.reduceAdd, g0, bytes_nil, aStr, e0, aLen, tStr, d2', d3, Int.toNat_zero, e48]; rfl) ?_
    refine Ex.forget fun E hE => ?_; have k29 := hE 29; simp (config := {decide := true}) only [RS, Nat.reduceAdd, g0] at k29; clear hE g0; have g29 := k29; clear k29
    refine Ex.ifT (by simp (config := {decide := true}) only [RS, Nat.reduceAdd, g29] <;> rfl) ?_
    (repeat refine Ex.assoc ?_); refine Ex.step (m := 0) (by simp (config := {decide := true}) only [RS, Nat.reduceAdd]; rfl) ?_
    refine Ex.retS ⟨trivial, _, by simp (config := {decide := true}) only [RS, Nat.reduceAdd]; rfl, ?_, rfl⟩
    have hb : getBad (48 :: u) = true := by unfold getBad; rw [← hL, blt_t (by omega : 1 < L)]; simp
    rw [if_pos hb]
    rfl
  have d2' : ¬ ((u.length + 1 : Nat) : Int) > 2000 := by omega
  have ht : trimOk (c :: u) dl = true := by
    unfold trimOk
    rw [hc, blt_t hl, blt_t (by simp : 0 < (c :: u).length)]
    simp
  have ct : ∀ m nx, callF Tryz.prog hk m 129 [.str (c :: u), .str dl] ⟨h.m, nx⟩ = some (.str (trimD (c :: u)), ⟨h.m, nx⟩) := fun m nx => callF_hk (B.trim ht)
  have hEx : ∀ (P : Prop), (((¬ ((u.length + 1 : Nat) : Int) > 1) ∨ (((u.length + 1 : Nat) : Int) > 1 ∧ (((c : Nat) : Int) == 48) = false)) → P) → P := fun P hP => hP (by
    by_cases h1 : 1 < L
    · right
      refine ⟨by omega, ?_⟩
      rw [beq_eq_false_iff_ne]
      intro e
      exact h3 ⟨h1, by omega⟩
    · left; omega)
  obtain ⟨W, hW⟩ : ∃ W, W = trimD (c :: u) := ⟨_, rfl⟩
  rw [← hW] at ct
  refine hEx _ fun hd3 => ?_
  clear hEx
  obtain ⟨eT, fn_tr⟩ := fn_Trim
  (repeat refine Ex.assoc ?_)
  refine Ex.cut (fun env h' => env.get 0 = some (.str (c :: u)) ∧ env.get 29 = some (.bool (!(W == []))) ∧ h'.m = h.m) ?_ ?_
  · rcases hd3 with d3 | ⟨d3, e48⟩
    · refine Ex.last (m := 0) (by simp (config := {decide := true}) only [RS, Nat.reduceAdd, g0, bytes_nil, bytes_dl, aStr, e0, aLen, tStr, d2', d3, fn_tr, ct]; rfl) ?_
      simp (config := {decide := true}) only [thenK, blockK, ite_true, ite_false, if_true, if_false]
      exact ⟨by simp (config := {decide := true}) only [RS, Nat.reduceAdd, g0], by simp (config := {decide := true}) only [RS, Nat.reduceAdd], by trivial⟩
    · refine Ex.last (m := 0) (by simp (config := {decide := true}) only [RS, Nat.reduceAdd, g0, bytes_nil, bytes_dl, aStr, e0, aLen, tStr, d2', d3, Int.toNat_zero, e48, fn_tr, ct]; rfl) ?_
      simp (config := {decide := true}) only [thenK, blockK, ite_true, ite_false, if_true, if_false]
      exact ⟨by simp (config := {decide := true}) only [RS, Nat.reduceAdd, g0], by simp (config := {decide := true}) only [RS, Nat.reduceAdd], by trivial⟩
  clear g0
  rintro env ⟨M0, N0⟩ ⟨g0, g29, e1⟩
  dsimp only at e1
  subst e1
  obtain ⟨s, hs⟩ : ∃ s, s = c :: u := ⟨_, rfl⟩
  have hbad : getBad s = !s.all isDig := by
    unfold getBad
    rw [hs, e0, ← hL, blt_f h2]
    have : (Nat.blt 1 L && (c :: u).head? == some 48) = false := by
      by_cases h1 : 1 < L
      · have : c ≠ 48 := fun e => h3 ⟨h1, e⟩
        simp [this]
      · rw [blt_f h1]; rfl
    rw [this]
    simp
  have hsl : s.length ≤ 2000 := by rw [hs, ← hL]; omega
  rw [← hs] at g0 hW
  rw [← hs]
  have hne : s ≠ [] := by rw [hs]; exact List.cons_ne_nil _ _
  clear hc hl h0 e0 hL hL' h2 d2 h3 d2' ht hd3 ct
  cases hd : s.all isDig with
  | false =>
    have hWn : (W == []) = false := by
      cases hw : W with
      | nil => rw [hW] at hw; rw [trimD_nil.1 hw] at hd; cases hd
      | cons a l => rfl
    rw [hWn] at g29
    refine Ex.ifT (by simp (config := {decide := true}) only [RS, Nat.reduceAdd, g29] <;> rfl) ?_
    (repeat refine Ex.assoc ?_); refine Ex.step (m := 0) (by simp (config := {decide := true}) only [RS, Nat.reduceAdd]; rfl) ?_
    refine Ex.retS ⟨trivial, _, by simp (config := {decide := true}) only [RS, Nat.reduceAdd]; rfl, ?_, rfl⟩
    rw [hbad, hd]
    rfl
  | true =>
    have hWn : W = [] := by rw [hW]; exact trimD_nil.2 hd
    subst hWn
    refine Ex.ifF (by simp (config := {decide := true}) only [RS, Nat.reduceAdd, g29] <;> rfl) (Ex.skipS ?_)
    have cof : ∀ m nx, callF Tryz.prog hk m 108 [.nils] ⟨h.m, nx⟩ = some (.opq (.nat 0), ⟨h.m, nx⟩) := fun m nx => callF_hk B.ofn
    (repeat refine Ex.assoc ?_); refine Ex.step (m := 0) (by simp (config := {decide := true}) only [RS, Nat.reduceAdd, fn_of, cof]; rfl) ?_
    have w9 : IntKind.i64.wrap (((s.length : Nat) : Int).tmod 9) = ((s.length % 9 : Nat) : Int) := by
      have ht : ((s.length : Nat) : Int).tmod 9 = ((s.length % 9 : Nat) : Int) := by rw [Int.tmod_eq_emod_of_nonneg (by omega)]; omega
      rw [ht, wrap_i64] <;> omega
    (repeat refine Ex.assoc ?_); refine Ex.step (m := 0) (by simp (config := {decide := true}) only [RS, Nat.reduceAdd, g0, aLen, tStr, w9]; rfl) ?_
    refine Ex.forget fun E hE => ?_; have k0 := hE 0; simp (config := {decide := true}) only [RS, Nat.reduceAdd, g0, g29] at k0; have k4 := hE 4; simp (config := {decide := true}) only [RS, Nat.reduceAdd, g0, g29] at k4; have k5 := hE 5; simp (config := {decide := true}) only [RS, Nat.reduceAdd, g0, g29] at k5; clear hE g0 g29; have g0 := k0; clear k0; have g4 := k4; clear k4; have g5 := k5; clear k5
    (repeat refine Ex.assoc ?_)
    refine Ex.cut (fun env h' => env.get 4 = some (.opq (.nat (tv 0 s))) ∧ h'.m = h.m) (Ex.block ?_) ?_
    · refine Ex.loop (fun k env h' => ∃ a r j, s = a ++ r ∧ k = r.length + (if j = 0 then 1 else 0) ∧ ((j < 9 ∧ j = r.length % 9 ∧ a = []) ∨ (j = 9 ∧ r.length % 9 = 0)) ∧
        env.get 0 = some (.str r) ∧ env.get 4 = some (.opq (.nat (tv 0 a))) ∧ env.get 5 = some (.int .i64 (j : Nat)) ∧ h'.m = h.m) ?_ _ _ _ ⟨[], s, s.length % 9, rfl, rfl, .inl ⟨Nat.mod_lt _ (by omega), rfl, rfl⟩, g0, g4, g5, rfl⟩
      clear g0 g4 g5
      rintro k env ⟨M1, N1⟩ ⟨a, r, j, hsr, hk', hj, g0, g4, g5, e1⟩
      dsimp only at e1
      subst e1
      (repeat refine Ex.assoc ?_); refine Ex.step (m := 0) (by simp (config := {decide := true}) only [RS, Nat.reduceAdd, g0, bytes_nil, aStr]; rfl) ?_
      refine Ex.forget fun E hE => ?_; have k0 := hE 0; simp (config := {decide := true}) only [RS, Nat.reduceAdd, g0, g4, g5] at k0; have k4 := hE 4; simp (config := {decide := true}) only [RS, Nat.reduceAdd, g0, g4, g5] at k4; have k5 := hE 5; simp (config := {decide := true}) only [RS, Nat.reduceAdd, g0, g4, g5] at k5; have k35 := hE 35; simp (config := {decide := true}) only [RS, Nat.reduceAdd, g0, g4, g5] at k35; clear hE g0 g4 g5; have g0 := k0; clear k0; have g4 := k4; clear k4; have g5 := k5; clear k5; have g35 := k35; clear k35
      by_cases hr : r = []
      · subst hr
        refine Ex.ifF (by simp (config := {decide := true}) only [RS, Nat.reduceAdd, g35] <;> rfl) (Ex.exitS ?_)
        simp (config := {decide := true}) only [thenK, blockK, ite_true, ite_false, if_true, if_false]
        refine ⟨?_, by trivial⟩
        rw [g4, hsr, List.append_nil]
      · have er : (r == []) = false := by cases r with
          | nil => exact absurd rfl hr
          | cons a l => rfl
        have hrl : 0 < r.length := List.length_pos_iff.2 hr
        rw [er] at g35
        refine Ex.ifT (by simp (config := {decide := true}) only [RS, Nat.reduceAdd, g35] <;> rfl) (Ex.skipS ?_)
        have hsl2 : a.length + r.length ≤ 2000 := by rw [hsr, List.length_append] at hsl; exact hsl
        (repeat refine Ex.assoc ?_)
        refine Ex.cut (fun env h' => ∃ a' r', s = a' ++ r' ∧ r'.length = r.length - j ∧ r'.length % 9 = 0 ∧ env.get 0 = some (.str r') ∧ env.get 4 = some (.opq (.nat (tv 0 a'))) ∧ h'.m = h.m) (Ex.block ?_) ?_
        · (repeat refine Ex.assoc ?_); refine Ex.step (m := 0) (by simp (config := {decide := true}) only [RS, Nat.reduceAdd, g5]; rfl) ?_
          refine Ex.forget fun E hE => ?_; have k0 := hE 0; simp (config := {decide := true}) only [RS, Nat.reduceAdd, g0, g4, g5, g35] at k0; have k4 := hE 4; simp (config := {decide := true}) only [RS, Nat.reduceAdd, g0, g4, g5, g35] at k4; have k5 := hE 5; simp (config := {decide := true}) only [RS, Nat.reduceAdd, g0, g4, g5, g35] at k5; have k37 := hE 37; simp (config := {decide := true}) only [RS, Nat.reduceAdd, g0, g4, g5, g35] at k37; clear hE g0 g4 g5 g35; have g0 := k0; clear k0; have g4 := k4; clear k4; have g5 := k5; clear k5; have g37 := k37; clear k37
          by_cases hj0 : j = 0
          · subst hj0
            refine Ex.cond_false (by simp (config := {decide := true}) only [RS, Nat.reduceAdd, g37] <;> rfl) (Ex.skip ?_)
            simp (config := {decide := true}) only [thenK, blockK, ite_true, ite_false, if_true, if_false]
            refine ⟨a, r, hsr, rfl, ?_, g0, g4, by trivial⟩
            rcases hj with ⟨_, h1, _⟩ | ⟨h1, _⟩ <;> omega
          · have d1 : ((j : Nat) : Int) > 0 := by omega
            refine Ex.cond_true (by simp (config := {decide := true}) only [RS, Nat.reduceAdd, g37, d1]) ?_
            have hjr : j ≤ r.length := by rcases hj with ⟨_, h1, _⟩ | ⟨h1, h2⟩ <;> omega
            have hj9 : j ≤ 9 := by rcases hj with ⟨h1, _, _⟩ | ⟨h1, h2⟩ <;> omega
            have z1 : (0 : Int) ≤ ((j : Nat) : Int) ∧ ((j : Nat) : Int) ≤ ((r.length : Nat) : Int) := by omega
            obtain ⟨p, hp⟩ : ∃ p, p = r.take j := ⟨_, rfl⟩
            obtain ⟨q, hq⟩ : ∃ q, q = r.drop j := ⟨_, rfl⟩
            have hpq : r = p ++ q := by rw [hp, hq, List.take_append_drop]
            have hpl : p.length = j := by rw [hp, List.length_take]; omega
            have hql : q.length = r.length - j := by rw [hq, List.length_drop]
            have hall : a.all isDig = true ∧ p.all isDig = true ∧ q.all isDig = true := by
              rw [hsr, hpq, List.all_append, List.all_append, Bool.and_eq_true, Bool.and_eq_true] at hd
              exact hd
            have hpo : parseOk p 10 32 = true := by
              unfold parseOk
              rw [hall.2.1, Nat.ble_eq_true_of_le (by omega : p.length ≤ 9), blt_t (by omega : 0 < p.length)]
              rfl
            have cp : ∀ m nx, callF Tryz.prog hk m 130 [.str p, .int .i64 10, .int .i64 32] ⟨h.m, nx⟩ = some (.tup [.int .u64 (tv 0 p : Nat), .nili], ⟨h.m, nx⟩) := fun m nx => callF_hk (B.parse hpo)
            have hz : List.take (j - 0) r = p := by rw [Nat.sub_zero, hp]
            (repeat refine Ex.assoc ?_); refine Ex.step (m := 0) (by simp (config := {decide := true}) only [RS, Nat.reduceAdd, g0, g5, tStr, z1, and_self, Int.toNat_natCast, List.drop_zero, hz, fn_parse, cp]; rfl) ?_
            refine Ex.forget fun E hE => ?_; have k0 := hE 0; simp (config := {decide := true}) only [RS, Nat.reduceAdd, g0, g4, g5, g37] at k0; have k4 := hE 4; simp (config := {decide := true}) only [RS, Nat.reduceAdd, g0, g4, g5, g37] at k4; have k5 := hE 5; simp (config := {decide := true}) only [RS, Nat.reduceAdd, g0, g4, g5, g37] at k5; have k6 := hE 6; simp (config := {decide := true}) only [RS, Nat.reduceAdd, g0, g4, g5, g37] at k6; clear hE g0 g4 g5 g37; have g0 := k0; clear k0; have g4 := k4; clear k4; have g5 := k5; clear k5; have g6 := k6; clear k6
            obtain ⟨T, hT⟩ : ∃ T, T = tv 0 a := ⟨_, rfl⟩
            obtain ⟨Q, hQ⟩ : ∃ Q, Q = tv 0 p := ⟨_, rfl⟩
            rw [← hT] at g4
            rw [← hQ] at g6
            have hQl : Q < 1000000000 := by
              have h1 := tv_lt p hall.2.1
              have h2 := Nat.pow_le_pow_right (n := 10) (by omega) (by omega : p.length ≤ 9)
              rw [show (10 : Nat) ^ 9 = 1000000000 by decide] at h2
              omega
            have hTs : szOk T := by rw [hT]; exact tv_sz hall.1 (by omega)
            have hTs2 : szOk (T * 1000000000) := by
              have h1 := tv_lt a hall.1
              have h2 : 10 ^ a.length ≤ 2 ^ (4 * a.length) := by rw [Nat.pow_mul]; exact Nat.pow_le_pow_left (by omega) _
              refine szOk_lt (k := 4 * a.length + 30) ?_ (by omega)
              rw [Nat.pow_add]
              have h3 : (2 : Nat) ^ 30 = 1073741824 := by decide
              rw [h3, ← hT] at *
              exact Nat.lt_of_lt_of_le (Nat.mul_lt_mul_of_pos_right (Nat.lt_of_lt_of_le h1 h2) (by omega)) (Nat.mul_le_mul_left _ (by omega))
            have hQs : szOk Q := szOk_lt (k := 30) (by have h3 : (2 : Nat) ^ 30 = 1073741824 := by decide
                                                       omega) (by omega)
            have h9s : szOk 1000000000 := by unfold szOk; decide
            have c1 : ∀ m nx, callF Tryz.prog hk m 75 [.int .u64 1000000000] ⟨h.m, nx⟩ = some (.opq (.nat 1000000000), ⟨h.m, nx⟩) := fun m nx => callF_hk (B.Of (a := 1000000000) (by omega))
            have c2 : ∀ m nx, callF Tryz.prog hk m 75 [.int .u64 (Q : Nat)] ⟨h.m, nx⟩ = some (.opq (.nat Q), ⟨h.m, nx⟩) := fun m nx => callF_hk (B.Of (by omega))
            have c3 : ∀ m nx, callF Tryz.prog hk m 94 [.opq (.nat T), .opq (.nat 1000000000)] ⟨h.m, nx⟩ = some (.opq (.nat (T * 1000000000)), ⟨h.m, nx⟩) := fun m nx => callF_hk (B.mul hTs h9s)
            have c4 : ∀ m nx, callF Tryz.prog hk m 131 [.opq (.nat (T * 1000000000)), .opq (.nat Q)] ⟨h.m, nx⟩ = some (.opq (.nat (T * 1000000000 + Q)), ⟨h.m, nx⟩) := fun m nx => callF_hk (B.add hTs2 hQs)
            obtain ⟨eM, fn_m⟩ : ∃ e, fnE Tryz.prog 94 = some e := ⟨_, fn_mul⟩
            obtain ⟨eA, fn_a⟩ : ∃ e, fnE Tryz.prog 131 = some e := ⟨_, fn_add⟩
            (repeat refine Ex.assoc ?_); refine Ex.step (m := 0) (by simp (config := {decide := true}) only [RS, Nat.reduceAdd, g4, g6, fn_Of, c1, c2, fn_m, c3, fn_a, c4]; rfl) ?_
            refine Ex.forget fun E hE => ?_; have k0 := hE 0; simp (config := {decide := true}) only [RS, Nat.reduceAdd, g0, g4, g5, g6] at k0; have k4 := hE 4; simp (config := {decide := true}) only [RS, Nat.reduceAdd, g0, g4, g5, g6] at k4; have k5 := hE 5; simp (config := {decide := true}) only [RS, Nat.reduceAdd, g0, g4, g5, g6] at k5; clear hE g0 g4 g5 g6; have g0 := k0; clear k0; have g4 := k4; clear k4; have g5 := k5; clear k5
            have z2 : ((r.length : Nat) : Int) ≤ ((r.length : Nat) : Int) := Int.le_refl _
            have hz2 : List.take (r.length - j) (List.drop j r) = q := by rw [← hq, ← hql, List.take_of_length_le (Nat.le_refl _)]
            refine Ex.last (m := 0) (by simp (config := {decide := true}) only [RS, Nat.reduceAdd, g0, g5, tStr, z1, and_self, Int.toNat_natCast, hz2]; rfl) ?_
            simp (config := {decide := true}) only [thenK, blockK, ite_true, ite_false, if_true, if_false]
            have hval : tv 0 (a ++ p) = T * 1000000000 + Q := by
              rw [tv_app, tv_acc, ← hT, ← hQ]
              rcases hj with ⟨_, _, rfl⟩ | ⟨h1, _⟩
              · have : T = 0 := hT
                rw [this, Nat.zero_mul, Nat.zero_mul]
              · rw [hpl, h1]
            refine ⟨a ++ p, q, by rw [List.append_assoc, ← hpq, hsr], hql, ?_, by simp (config := {decide := true}) only [RS, Nat.reduceAdd], by simp (config := {decide := true}) only [RS, Nat.reduceAdd, g4, hval], by trivial⟩
            rw [hql]
            rcases hj with ⟨_, h1, _⟩ | ⟨h1, h2⟩ <;> omega
        clear g0 g4 g5 g35
        rintro env ⟨M2, N2⟩ ⟨a', r', hs', hr', hm', g0, g4, e1⟩
        dsimp only at e1
        subst e1
        refine Ex.last (m := 0) (by simp (config := {decide := true}) only [RS, Nat.reduceAdd]; rfl) ?_
        simp (config := {decide := true}) only [thenK, blockK, ite_true, ite_false, if_true, if_false]
        exact ⟨r'.length, by rw [hk', hr']; split <;> omega, a', r', 9, hs', rfl, .inr ⟨rfl, hm'⟩, by simp (config := {decide := true}) only [RS, Nat.reduceAdd, g0], by simp (config := {decide := true}) only [RS, Nat.reduceAdd, g4], by simp (config := {decide := true}) only [RS, Nat.reduceAdd] <;> rfl, by trivial⟩
    clear g0 g4 g5
    rintro env ⟨M2, N2⟩ ⟨g4, e1⟩
    dsimp only at e1
    subst e1
    (repeat refine Ex.assoc ?_); refine Ex.step (m := 0) (by simp (config := {decide := true}) only [RS, Nat.reduceAdd, g4]; rfl) ?_
    refine Ex.ret ⟨trivial, _, by simp (config := {decide := true}) only [RS, Nat.reduceAdd]; rfl, ?_, rfl⟩
    rw [hbad, hd]
    rfl
end Go.Vk
set_option linter.unusedSimpArgs false
set_option linter.unusedVariables false
set_option maxRecDepth 100000
set_option maxHeartbeats 4000000
namespace Go.Vk
open Go.Proofs (Tryz.prog)
def frOk (s : Bool) (n d : Nat) : Prop := 0 < d ∧ Nat.Coprime n d ∧ (n = 0 → s = false)
theorem open_frac {c : Cx} {h : Hp} (hr : Rel c h) {s : Bool} {n d : Nat} {v : Value} (hv : VR c (.opq (.frac s n d)) v) :
    ∃ c2 h2 b v0, Opens c h c2 h2 ∧ VR c2 (.ptr b 0) v ∧ h2.m.get b = some (.row [.bool s, .opq (.nat n), .opq (.nat d)] true) ∧ frOk s n d ∧ VR c (.tup [.bool s, .opq (.nat n), .opq (.nat d)]) v0 := by
  simp only [VR, RO] at hv
  obtain ⟨h0, k, cs, e, fr, vn, vd, o, rfl, hz, hk, e1, e2, e3, e4, e5⟩ := hv
  obtain ⟨c2, g1, g2, g3⟩ := open_row hr (o := o) (xs := [.bool s, .opq (.nat n), .opq (.nat d)]) hz hk (fun i y hy => by
    match i, hy with
    | 0, hy => simp at hy; subst hy; exact ⟨.bool s, by simpa using e1, by simp [VR]⟩
    | 1, hy => simp at hy; subst hy; exact ⟨vn, e2, by simp only [VR, RO]; exact e4⟩
    | 2, hy => simp at hy; subst hy; exact ⟨vd, e3, by simp only [VR, RO]; exact e5⟩
    | i + 3, hy => simp at hy)
  refine ⟨c2, _, h.nx, .tuple #[.bool s, vn, vd], g1, by simp only [VR]; exact ⟨g2, by rw [g3]; simp⟩, by simp [PT.get_set], h0, ?_⟩
  simp only [VR, VRL, RO]
  exact ⟨_, rfl, _, _, rfl, rfl, _, _, rfl, e4, _, _, rfl, e5, rfl⟩
theorem close_frac {c c2 : Cx} {h h2 h' : Hp} {b : Nat} {s : Bool} {n d : Nat} {ro : Bool} (hb : h'.m.get b = some (.row [.bool s, .opq (.nat n), .opq (.nat d)] ro)) (hro : ro = false) (hnew : h.m.get b = none) (hf : frOk s n d) :
    Closes c h c2 h2 h' (.ptr b 0) (.opq (.frac s n d)) := by
  subst hro
  refine ⟨[b], fun x hx => ?_, fun c' x g1 g2 g3 => ?_⟩
  · simp only [List.mem_singleton] at hx; subst hx
    exact ⟨hnew, _, hb, rfl⟩
  obtain ⟨cs, e, fr, k1, k2, _⟩ := g1.blk b _ hb
  simp only [VR] at g3
  obtain ⟨x0, y0, z0⟩ := k2 0 _ rfl
  obtain ⟨x1, y1, z1⟩ := k2 1 _ rfl
  obtain ⟨x2, y2, z2⟩ := k2 2 _ rfl
  simp only [VR, RO] at z0 z1 z2 ⊢
  subst z0
  have hz : ∀ k, c'.Z k → (c.close c' [b]).Z k ∧ (c.close c' [b]).w.heap[k]? = c'.w.heap[k]? := fun k hk => ⟨.inl hk, rfl⟩
  exact ⟨hf, (c'.rho b).1, cs, e, fr, x1, x2, (c'.rho b).2, by simpa using g3.2, .inr ⟨b, by simp, rfl⟩, k1, by simpa using y0, y1, y2, z1.mono hz, z2.mono hz⟩
theorem fF0 : fieldT Tryz.prog 135 0 = some (0, 4) := by kernel_rfl
theorem fF1 : fieldT Tryz.prog 135 1 = some (1, 130) := by kernel_rfl
theorem fF2 : fieldT Tryz.prog 135 2 = some (2, 130) := by kernel_rfl
theorem sPN : sizeT Tryz.prog 130 = 1 := by kernel_rfl
theorem hPN : hasT Tryz.prog 130 = true := by kernel_rfl
theorem aPN : aggT Tryz.prog 130 = false := by kernel_rfl
theorem uPF : Tryz.prog.underlying 82 = some (.pointer 135) := by kernel_rfl
theorem fn_parts : fnE Tryz.prog 80 = some ⟨(Go.Proofs.Tryz.f80.body).getD .skip, 28, [.tmp 2, .tmp 3, .tmp 4]⟩ := by kernel_rfl
theorem parts_nil {hk : Hooks} (B : NatHk hk) (hn : ∀ a h, hk 80 a h = none) {h : Hp} :
    ExF Tryz.prog hk 80 [.nilp] h fun r' h1 => r' = .tup [.bool false, .opq (.nat 0), .opq (.nat 1)] ∧ h1.m = h.m := by
  refine ExF.body fn_parts (hn _ _) (by simp) ?_
  simp only [Go.Proofs.Tryz.f80, Option.getD_some]
  (repeat refine Ex.assoc ?_); refine Ex.step (m := 0) (by simp (config := {decide := true}) only [RS, Nat.reduceAdd]; rfl) ?_
  (repeat refine Ex.assoc ?_); refine Ex.step (m := 0) (by simp (config := {decide := true}) only [RS, Nat.reduceAdd, aEq, uPF]; rfl) ?_
  refine Ex.forget fun E hE => ?_; have k13 := hE 13; simp (config := {decide := true}) only [RS, Nat.reduceAdd] at k13; clear hE; have g13 := k13; clear k13
  refine Ex.ifT (by simp (config := {decide := true}) only [RS, Nat.reduceAdd, g13] <;> rfl) ?_
  have c0 : ∀ m nx, callF Tryz.prog hk m 75 [.int .u64 0] ⟨h.m, nx⟩ = some (.opq (.nat 0), ⟨h.m, nx⟩) := fun m nx => callF_hk (B.Of (a := 0) (by omega))
  have c1 : ∀ m nx, callF Tryz.prog hk m 75 [.int .u64 1] ⟨h.m, nx⟩ = some (.opq (.nat 1), ⟨h.m, nx⟩) := fun m nx => callF_hk (B.Of (a := 1) (by omega))
  (repeat refine Ex.assoc ?_); refine Ex.step (m := 0) (by simp (config := {decide := true}) only [RS, Nat.reduceAdd, fn_Of, c0, c1]; rfl) ?_
  refine Ex.retS ⟨trivial, _, by simp (config := {decide := true}) only [RS, Nat.reduceAdd]; rfl, ?_, rfl⟩
  simp (config := {decide := true}) only [RS, Nat.reduceAdd]
theorem parts_run {hk : Hooks} (hn : ∀ a h, hk 80 a h = none) {M : PT Blk} {N b n d : Nat} {s ro : Bool} (hb : M.get b = some (.row [.bool s, .opq (.nat n), .opq (.nat d)] ro)) (hbN : b < N) :
    ExF Tryz.prog hk 80 [.ptr b 0] ⟨M, N⟩ fun r' h1 => r' = .tup [.bool s, .opq (.nat n), .opq (.nat d)] ∧ h1.m = M := by
  refine ExF.body fn_parts (hn _ _) (by simp) ?_
  simp only [Go.Proofs.Tryz.f80, Option.getD_some]
  have q0 : ∀ nx, getCells ⟨M, nx⟩ b 0 1 = some [.bool s] := fun nx => cellAt_get (h := ⟨M, nx⟩) (by unfold cellAt; simp only [hb]; rfl)
  have q1 : ∀ nx, getCells ⟨M, nx⟩ b 1 1 = some [.opq (.nat n)] := fun nx => cellAt_get (h := ⟨M, nx⟩) (by unfold cellAt; simp only [hb]; rfl)
  have q2 : ∀ nx, getCells ⟨M, nx⟩ b 2 1 = some [.opq (.nat d)] := fun nx => cellAt_get (h := ⟨M, nx⟩) (by unfold cellAt; simp only [hb]; rfl)
  have h01 : 0 < 1 := Nat.one_pos
  (repeat refine Ex.assoc ?_); refine Ex.step (m := 0) (by simp (config := {decide := true}) only [RS, Nat.reduceAdd]; rfl) ?_
  refine Ex.forget fun E hE => ?_; have k0 := hE 0; simp (config := {decide := true}) only [RS, Nat.reduceAdd] at k0; clear hE; have g0 := k0; clear k0
  (repeat refine Ex.assoc ?_); refine Ex.step (m := 0) (by simp (config := {decide := true}) only [RS, Nat.reduceAdd, g0, aEq, uPF, tNatP, fF2, sPN, hPN, aPN, h01, Nat.zero_add, q2]; rfl) ?_
  refine Ex.forget fun E hE => ?_; have k0 := hE 0; simp (config := {decide := true}) only [RS, Nat.reduceAdd, g0] at k0; have k13 := hE 13; simp (config := {decide := true}) only [RS, Nat.reduceAdd, g0] at k13; clear hE g0; have g0 := k0; clear k0; have g13 := k13; clear k13
  refine Ex.ifF (by simp (config := {decide := true}) only [RS, Nat.reduceAdd, g13] <;> rfl) (Ex.skipS ?_)
  have hbl : Nat.blt b (N + 12) = true := blt_t (by omega)
  (repeat refine Ex.assoc ?_); refine Ex.step (m := 0) (by rw [drawR (B := [0, 1, 3, 7, 0, 16, 48, 112, 0, 256, 768, 1792, 15, 4351, 16383]) (ord := [0, 1, 2, 3, 4, 5, 6, 7, 8, 9, 10, 11, 12, 13, 14]) (by kernel_rfl) (by kernel_rfl) (by kernel_rfl)]; simp (config := {decide := true}) only [RS, Nat.reduceAdd, drawOps, drawStep, readOk, readsA, segsOk, blkOk, Bool.true_or, Bool.or_true, AV.beqL_refl, hbl, g0, aEq, uPF, tNatP, fF0, fF1, fF2, sPN, hPN, aPN, sBool, hBool, aBool, h01, Nat.zero_add, q0, q1, q2]; rfl) ?_
  refine Ex.ret ⟨trivial, _, by simp (config := {decide := true}) only [RS, Nat.reduceAdd]; rfl, ?_, rfl⟩
  simp (config := {decide := true}) only [RS, Nat.reduceAdd]
end Go.Vk
