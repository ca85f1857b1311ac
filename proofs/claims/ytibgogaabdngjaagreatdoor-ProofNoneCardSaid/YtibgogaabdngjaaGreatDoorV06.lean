/- Part of a proof. Words: greatest common divisors, lengths. Words: greatest common divisors. Numbers: how many bits. Numbers: as words. Words: noughts at the low end. Numbers: noughts at the low end. Long division: one step's guess, one step's digits. Numbers: more hooks. Long division: one step. -/
import Derived.Test.YtibgogaabdngjaaGreatDoorV05
set_option linter.unusedSimpArgs false
set_option linter.unusedVariables false
set_option maxRecDepth 100000
set_option maxHeartbeats 4000000
namespace Go.Vk
open Go.Proofs (Tryz.prog)
/-- How many bits there are. -/
def blen (x : Nat) : Nat := if x = 0 then 0 else Nat.log2 x + 1
theorem shr_w {z r : Nat} (hr : r < 64) : ((z : Nat) : Int).fdiv (2 ^ (min r (IntKind.bits .u64))) = ((z / 2 ^ r : Nat) : Int) := by
  have e : min r (IntKind.bits .u64) = r := by
    have : IntKind.bits .u64 = 64 := rfl
    omega
  rw [e, Int.fdiv_eq_ediv_of_nonneg _ (by exact Int.le_of_lt (Int.pow_pos (by omega)))]
  have : ((2 : Int) ^ r) = ((2 ^ r : Nat) : Int) := by simp
  rw [this]; rfl
theorem fn_len : fnE Tryz.prog 201 = some ⟨(Go.Proofs.Tryz.f201.body).getD .skip, 23, [.tmp 2]⟩ := by kernel_rfl
theorem len_run {hk : Hooks} (hn : ∀ a h, hk 201 a h = none) {h : Hp} {x0 : Nat} (hx : x0 < 18446744073709551616) :
    ExF Tryz.prog hk 201 [.int .u64 x0] h fun r' h1 => r' = .int .i64 (blen x0 : Nat) ∧ h1.m = h.m := by
  refine ExF.body fn_len (hn _ _) (by simp) ?_
  simp only [Go.Proofs.Tryz.f201, Option.getD_some]
  (repeat refine Ex.assoc ?_); refine Ex.step (m := 0) (by simp (config := {decide := true}) only [RS, Nat.reduceAdd]; rfl) ?_
  (repeat refine Ex.assoc ?_); refine Ex.step (m := 0) (by simp (config := {decide := true}) only [RS, Nat.reduceAdd]; rfl) ?_
  (repeat refine Ex.assoc ?_); refine Ex.step (m := 0) (by simp (config := {decide := true}) only [RS, Nat.reduceAdd]; rfl) ?_
  refine Ex.cut (fun env h' => ∃ n x : Nat, x < 2 ∧ x = x0 / 2 ^ n ∧ (n = 0 ∨ x ≠ 0) ∧ n < 1000 ∧ env.get 0 = some (.int .u64 x) ∧ env.get 3 = some (.int .i64 n) ∧ h'.m = h.m) (Ex.block ?_) ?_
  · refine Ex.loop (fun j env h' => ∃ n x : Nat, j ≤ 6 ∧ x < 2 ^ 2 ^ j ∧ x < 18446744073709551616 ∧ x = x0 / 2 ^ n ∧ (n = 0 ∨ x ≠ 0) ∧ n + 2 ^ j ≤ 64 ∧ env.get 0 = some (.int .u64 x) ∧ env.get 3 = some (.int .i64 n) ∧ env.get 4 = some (.int .i64 (2 ^ j / 2 : Nat)) ∧ h'.m = h.m) ?_ 6 _ _ ?_
    · rintro j env h' ⟨n, x, h1, h2, h2', h3, h4, h5, g0, g3, g4, h6⟩
      cases j with
      | zero =>
        rw [show (2 ^ 0 / 2 : Nat) = 0 by decide] at g4
        (repeat refine Ex.assoc ?_); refine Ex.step (m := 0) (by simp (config := {decide := true}) only [RS, Nat.reduceAdd, g4, Int.natCast_zero]; rfl) ?_
        refine Ex.ifF (by simp (config := {decide := true}) only [RS, Nat.reduceAdd]) (Ex.exitS ?_)
        simp (config := {decide := true}) only [thenK, blockK, ite_true, ite_false, if_true, if_false]
        exact ⟨n, x, by simpa using h2, h3, h4, by omega, by simp (config := {decide := true}) only [RS, Nat.reduceAdd, g0], by simp (config := {decide := true}) only [RS, Nat.reduceAdd, g3], h6⟩
      | succ j =>
        have hb : 2 ^ (j + 1) / 2 = 2 ^ j := by rw [Nat.pow_succ]; omega
        have hb2 : 2 ^ (j + 1) = 2 ^ j + 2 ^ j := by rw [Nat.pow_succ]; omega
        obtain ⟨y, hy⟩ : ∃ y, y = 2 ^ j := ⟨_, rfl⟩
        have hy1 : 0 < y := by rw [hy]; exact Nat.two_pow_pos j
        have hy2 : y ≤ 32 := by
          have : 2 ^ j ≤ 2 ^ 5 := Nat.pow_le_pow_right (by omega) (by omega)
          omega
        rw [hb, ← hy] at g4
        rw [hb2, ← hy] at h2 h5
        have c1 : ((y : Nat) : Int) > 0 := by omega
        have c2 : ¬ ((y : Nat) : Int) < 0 := by omega
        have q1 : IntKind.i64.wrap (((y : Nat) : Int).tdiv 2) = ((2 ^ j / 2 : Nat) : Int) := by
          rw [show ((y : Nat) : Int).tdiv 2 = ((y / 2 : Nat) : Int) from (Int.ofNat_tdiv y 2).symm, wrap_i64, hy] <;> omega
        (repeat refine Ex.assoc ?_); refine Ex.step (m := 0) (by simp (config := {decide := true}) only [RS, Nat.reduceAdd, g4, c1]; rfl) ?_
        refine Ex.ifT (by simp (config := {decide := true}) only [RS, Nat.reduceAdd]) (Ex.skipS ?_)
        refine Ex.seq (Ex.block ?_)
        (repeat refine Ex.assoc ?_); refine Ex.step (m := 0) (by simp (config := {decide := true}) only [RS, Nat.reduceAdd, g0, g4, c2, Int.toNat_natCast, shr_w (show y < 64 by omega)]; rfl) ?_
        by_cases hz : x / 2 ^ y = 0
        · have hz' : (((x / 2 ^ y : Nat) : Int) == 0) = true := i_eq (by omega)
          refine Ex.cond_false (by simp (config := {decide := true}) only [RS, Nat.reduceAdd, hz']) (Ex.skip ?_)
          simp (config := {decide := true}) only [thenK, blockK, ite_true, ite_false, if_true, if_false]
          refine Ex.last (m := 0) (by simp (config := {decide := true}) only [RS, Nat.reduceAdd, g4, q1]; rfl) ?_
          simp (config := {decide := true}) only [thenK, blockK, ite_true, ite_false, if_true, if_false]
          refine ⟨j, Nat.lt_succ_self j, n, x, by omega, ?_, h2', h3, h4, by omega, by simp (config := {decide := true}) only [RS, Nat.reduceAdd, g0], by simp (config := {decide := true}) only [RS, Nat.reduceAdd, g3], by simp (config := {decide := true}) only [RS, Nat.reduceAdd], h6⟩
          rw [← hy]
          exact (Nat.div_eq_zero_iff_lt (Nat.two_pow_pos y)).1 hz
        · have hz' : (((x / 2 ^ y : Nat) : Int) == 0) = false := i_ne (by omega)
          refine Ex.cond_true (by simp (config := {decide := true}) only [RS, Nat.reduceAdd, hz']) ?_
          (repeat refine Ex.assoc ?_); refine Ex.step (m := 0) (by simp (config := {decide := true}) only [RS, Nat.reduceAdd, g0, g4, c2, Int.toNat_natCast, shr_w (show y < 64 by omega)]; rfl) ?_
          have w1 : IntKind.i64.wrap (((n : Nat) : Int) + ((y : Nat) : Int)) = ((n + y : Nat) : Int) := by rw [wrap_i64] <;> omega
          refine Ex.last (m := 0) (by simp (config := {decide := true}) only [RS, Nat.reduceAdd, g3, g4, w1]; rfl) ?_
          simp (config := {decide := true}) only [thenK, blockK, ite_true, ite_false, if_true, if_false]
          refine Ex.last (m := 0) (by simp (config := {decide := true}) only [RS, Nat.reduceAdd, g4, q1]; rfl) ?_
          simp (config := {decide := true}) only [thenK, blockK, ite_true, ite_false, if_true, if_false]
          refine ⟨j, Nat.lt_succ_self j, n + y, x / 2 ^ y, by omega, ?_, Nat.lt_of_le_of_lt (Nat.div_le_self _ _) h2', ?_, .inr hz, by omega, by simp (config := {decide := true}) only [RS, Nat.reduceAdd], by simp (config := {decide := true}) only [RS, Nat.reduceAdd], by simp (config := {decide := true}) only [RS, Nat.reduceAdd], h6⟩
          · rw [← hy, Nat.div_lt_iff_lt_mul (Nat.two_pow_pos y), ← Nat.pow_add]; exact h2
          · rw [h3, Nat.div_div_eq_div_mul, ← Nat.pow_add]
    · exact ⟨0, x0, by omega, by simpa using hx, hx, by simp, .inl rfl, by decide, by simp (config := {decide := true}) only [RS, Nat.reduceAdd], by simp (config := {decide := true}) only [RS, Nat.reduceAdd]; rfl, by simp (config := {decide := true}) only [RS, Nat.reduceAdd]; rfl, rfl⟩
  · rintro env h' ⟨n, x, h1, h2, h3, h4, g0, g3, h5⟩
    have w1 : IntKind.i64.wrap ((x : Nat) : Int) = (x : Nat) := by rw [wrap_i64] <;> omega
    have w2 : IntKind.i64.wrap (((n : Nat) : Int) + ((x : Nat) : Int)) = ((n + x : Nat) : Int) := by rw [wrap_i64] <;> omega
    (repeat refine Ex.assoc ?_); refine Ex.step (m := 0) (by simp (config := {decide := true}) only [RS, Nat.reduceAdd, g0, g3, tInt, tU64, w1, w2]; rfl) ?_
    refine Ex.ret ⟨trivial, _, by simp (config := {decide := true}) only [RS, Nat.reduceAdd]; rfl, ?_, h5⟩
    simp (config := {decide := true}) only [RS, Nat.reduceAdd]
    have : n + x = blen x0 := by
      unfold blen
      by_cases h0 : x0 = 0
      · subst h0
        simp at h2
        rw [if_pos rfl]; omega
      · rw [if_neg h0]
        have hx1 : x ≠ 0 := by
          rcases h3 with e | e
          · subst e; simp at h2; omega
          · exact e
        have hx2 : x = 1 := by omega
        rw [hx2] at h2 ⊢
        have := Nat.div_add_mod x0 (2 ^ n)
        have hm := Nat.mod_lt x0 (Nat.two_pow_pos n)
        rw [← h2, Nat.mul_one] at this
        congr 1
        symm
        exact (Nat.log2_eq_iff h0).2 ⟨by omega, by rw [Nat.pow_succ]; omega⟩
    rw [this]
end Go.Vk
set_option linter.unusedSimpArgs false
set_option linter.unusedVariables false
set_option maxRecDepth 100000
set_option maxHeartbeats 4000000
namespace Go.Vk
open Go.Proofs (Tryz.prog)
/-- A region that draws its order: the canonical one. -/
theorem drawR {P : Program} {call : FuncId → List AV → Hp → Option (AV × Hp)} {ops : Array Oper} {nt : Nat} {env : Env} {h : Hp} {B ord : List Nat} (hB : befores ops = B) (ho : ordOf ops.toList B = ord) (hok : regionOk ops B ord = true) :
    runRegion P call ops true nt env h = drawOps P call ops B nt h.nx ord env { h with nx := h.nx + ops.size } [] := by
  unfold runRegion
  simp only [hB, ho, hok]
theorem fn_common : fnE Tryz.prog 203 = some ⟨(Go.Proofs.Tryz.f203.body).getD .skip, 12, [.tmp 4]⟩ := by kernel_rfl
theorem common_run {hk : Hooks} (hn : ∀ a h, hk 203 a h = none) {h : Hp} {a b : Nat} :
    ExF Tryz.prog hk 203 [.int .u64 a, .int .u64 b] h fun r' h1 => r' = .int .u64 (Nat.gcd a b : Nat) ∧ h1.m = h.m := by
  refine ExF.body fn_common (hn _ _) (by simp) ?_
  simp only [Go.Proofs.Tryz.f203, Option.getD_some]
  (repeat refine Ex.assoc ?_); refine Ex.step (m := 0) (by simp (config := {decide := true}) only [RS, Nat.reduceAdd]; rfl) ?_
  refine Ex.cut (fun env h' => env.get 0 = some (.int .u64 (Nat.gcd a b : Nat)) ∧ h'.m = h.m) (Ex.block ?_) ?_
  · refine Ex.loop (fun y env h' => ∃ x : Nat, env.get 0 = some (.int .u64 x) ∧ env.get 1 = some (.int .u64 y) ∧ Nat.gcd x y = Nat.gcd a b ∧ h'.m = h.m) ?_ b _ _ ?_
    · rintro y env h' ⟨x, g0, g1, h1, h2⟩
      by_cases hy : y = 0
      · subst hy
        (repeat refine Ex.assoc ?_); refine Ex.step (m := 0) (by simp (config := {decide := true}) only [RS, Nat.reduceAdd, g1, Int.natCast_zero]; rfl) ?_
        refine Ex.ifF (by simp (config := {decide := true}) only [RS, Nat.reduceAdd]; rfl) (Ex.exitS ?_)
        simp (config := {decide := true}) only [thenK, blockK, ite_true, ite_false, if_true, if_false]
        refine ⟨?_, h2⟩
        simp (config := {decide := true}) only [RS, Nat.reduceAdd, g0]
        rw [← h1, Nat.gcd_zero_right]
      · have hy' : ((y : Int) == 0) = false := i_ne (by omega)
        have hy0 : ¬ ((y : Nat) : Int) = 0 := by omega
        (repeat refine Ex.assoc ?_); refine Ex.step (m := 0) (by simp (config := {decide := true}) only [RS, Nat.reduceAdd, g1, hy']; rfl) ?_
        refine Ex.ifT (by simp (config := {decide := true}) only [RS, Nat.reduceAdd]) (Ex.skipS ?_)
        refine Ex.block ?_
        refine Ex.last (m := 0) (by rw [drawR (B := [0, 0, 0, 6, 3, 31]) (ord := [0, 1, 2, 3, 4, 5]) (by kernel_rfl) (by kernel_rfl) (by kernel_rfl)]; simp (config := {decide := true}) only [RS, Nat.reduceAdd, drawOps, drawStep, readOk, readsA, segsOk, g0, g1, hy0, rem_nat]; rfl) ?_
        simp (config := {decide := true}) only [thenK, blockK, ite_true, ite_false, if_true, if_false]
        refine ⟨x % y, Nat.mod_lt _ (by omega), y, by simp (config := {decide := true}) only [RS, Nat.reduceAdd], by simp (config := {decide := true}) only [RS, Nat.reduceAdd], ?_, h2⟩
        rw [← h1, Nat.gcd_comm y, ← Nat.gcd_rec, Nat.gcd_comm]
    · exact ⟨a, by simp (config := {decide := true}) only [RS, Nat.reduceAdd], by simp (config := {decide := true}) only [RS, Nat.reduceAdd], rfl, rfl⟩
  · rintro env h' ⟨g0, h1⟩
    (repeat refine Ex.assoc ?_); refine Ex.step (m := 0) (by simp (config := {decide := true}) only [RS, Nat.reduceAdd, g0]; rfl) ?_
    refine Ex.ret ⟨trivial, _, by simp (config := {decide := true}) only [RS, Nat.reduceAdd]; rfl, ?_, h1⟩
    simp (config := {decide := true}) only [RS, Nat.reduceAdd]

end Go.Vk
set_option linter.unusedSimpArgs false
set_option linter.unusedVariables false
set_option maxRecDepth 100000
set_option maxHeartbeats 4000000
namespace Go.Vk
open Go.Proofs (Tryz.prog)
theorem blen_top {ds : List Nat} (hd : digOk ds) {n : Nat} (hn : ds.length = n + 1) : 32 * n + blen (dig ds n) = blen (digVal ds) := by
  have h1 := digVal_take_succ ds n
  rw [List.take_of_length_le (by omega)] at h1
  have h2 := digVal_take_lt hd.1 n
  have h3 : dig ds n ≠ 0 := by
    refine hd.2 _ ?_
    rw [List.getLast?_eq_getElem?, hn]
    simp [dig, List.getD_eq_getElem?_getD, hn]
  obtain ⟨d, hdd⟩ : ∃ d, d = dig ds n := ⟨_, rfl⟩
  rw [← hdd] at h1 h3 ⊢
  have hB : 4294967296 ^ n = 2 ^ (32 * n) := by rw [show (4294967296 : Nat) = 2 ^ 32 by decide, ← Nat.pow_mul]
  rw [hB] at h1 h2
  have hp : 0 < 2 ^ (32 * n) := Nat.two_pow_pos _
  have h5 : 2 ^ (32 * n) * 1 ≤ 2 ^ (32 * n) * d := Nat.mul_le_mul_left _ (by omega)
  have h4 : digVal ds ≠ 0 := by omega
  unfold blen
  rw [if_neg h3, if_neg h4, ← Nat.add_assoc]
  congr 1
  symm
  rw [Nat.log2_eq_iff h4]
  have h6 : 2 ^ Nat.log2 d ≤ d := Nat.log2_self_le h3
  have h7 : d < 2 ^ (Nat.log2 d + 1) := Nat.lt_log2_self
  constructor
  · rw [Nat.pow_add]
    have := Nat.mul_le_mul_left (2 ^ (32 * n)) h6
    omega
  · rw [Nat.add_assoc, Nat.pow_add]
    have := Nat.mul_le_mul_left (2 ^ (32 * n)) (Nat.succ_le_of_lt h7)
    rw [Nat.mul_succ] at this
    omega
theorem fn_bits : fnE Tryz.prog 132 = some ⟨(Go.Proofs.Tryz.f132.body).getD .skip, 22, [.tmp 2]⟩ := by kernel_rfl
theorem bits_run {hk : Hooks} (B : Base hk) (hl : ∀ a h, hk 201 a h = none) (hn : ∀ a h, hk 132 a h = none) {h : Hp} {va : AV} {da ba : List Nat} (ha : NumAt h va da ba) (sa : digOk da) (la : da.length < 10000000000) :
    ExF Tryz.prog hk 132 [va] h fun r' h1 => r' = .int .i64 (blen (digVal da) : Nat) ∧ h1.m = h.m := by
  obtain ⟨ra, ha1, ha2⟩ := ha
  refine ExF.body fn_bits (hn _ _) (by simp) ?_
  simp only [Go.Proofs.Tryz.f132, Option.getD_some]
  have ca : ∀ m nx, callF Tryz.prog hk m 123 [va] ⟨h.m, nx⟩ = some (ra, ⟨h.m, nx⟩) := fun m nx => callF_hk (B.digits _ _ _ ha1)
  (repeat refine Ex.assoc ?_); refine Ex.step (m := 0) (by simp (config := {decide := true}) only [RS, Nat.reduceAdd]; rfl) ?_
  (repeat refine Ex.assoc ?_); refine Ex.step (m := 0) (by simp (config := {decide := true}) only [RS, Nat.reduceAdd, fn_digits, ca]; rfl) ?_
  (repeat refine Ex.assoc ?_); refine Ex.step (m := 0) (by simp (config := {decide := true}) only [RS, Nat.reduceAdd, ha2.len]; rfl) ?_
  by_cases h0 : da.length = 0
  · have h0' : ((da.length : Int) == 0) = true := i_eq (by omega)
    refine Ex.ifT (by simp (config := {decide := true}) only [RS, Nat.reduceAdd, h0']) ?_
    (repeat refine Ex.assoc ?_); refine Ex.step (m := 0) (by simp (config := {decide := true}) only [RS, Nat.reduceAdd]; rfl) ?_
    refine Ex.retS ⟨trivial, _, by simp (config := {decide := true}) only [RS, Nat.reduceAdd]; rfl, ?_, rfl⟩
    simp (config := {decide := true}) only [RS, Nat.reduceAdd]
    have : da = [] := List.eq_nil_of_length_eq_zero h0
    subst this; rfl
  · have h0' : ((da.length : Int) == 0) = false := i_ne (by omega)
    refine Ex.ifF (by simp (config := {decide := true}) only [RS, Nat.reduceAdd, h0']) (Ex.skipS ?_)
    obtain ⟨n, hn'⟩ : ∃ n, da.length = n + 1 := ⟨da.length - 1, by omega⟩
    obtain ⟨ab, ao, ac, ae, rfl, hga⟩ := ha2.slice (i := n) (by omega)
    have w1 : IntKind.i64.wrap ((da.length : Int) - 1) = (n : Nat) := by rw [wrap_i64] <;> omega
    have w2 : IntKind.i64.wrap (32 * ((n : Nat) : Int)) = ((32 * n : Nat) : Int) := by rw [wrap_i64] <;> omega
    have e3 : (0 ≤ ((n : Nat) : Int) ∧ ((n : Nat) : Int) < (da.length : Int)) := by omega
    have ld := dig_lt sa.1 n
    have w3 : IntKind.u64.wrap ((dig da n : Nat) : Int) = (dig da n : Nat) := by rw [wrap_u64] <;> omega
    obtain ⟨m, r', h1', p1, rfl, p2⟩ := len_run hl (h := ⟨h.m, h.nx + 21⟩) (x0 := dig da n) (by omega)
    have hb := blen_top sa hn'
    have hbl : blen (digVal da) < 10000000000000 := by
      rw [← hb]; unfold blen
      split
      · omega
      · rename_i hne
        have := (Nat.log2_lt hne (k := 32)).2 (by omega)
        omega
    have w4 : IntKind.i64.wrap (((32 * n : Nat) : Int) + ((blen (dig da n) : Nat) : Int)) = ((blen (digVal da) : Nat) : Int) := by rw [← hb, wrap_i64] <;> omega
    (repeat refine Ex.assoc ?_); refine Ex.step (m := m) (by simp (config := {decide := true}) only [RS, Nat.reduceAdd, aLen, tSl, tU32, tU64, hU32, sU32, aU32, w1, w2, e3, Int.toNat_natCast, hga, w3, fn_len, p1, w4]; rfl) ?_
    refine Ex.ret ⟨trivial, _, by simp (config := {decide := true}) only [RS, Nat.reduceAdd]; rfl, ?_, p2⟩
    simp (config := {decide := true}) only [RS, Nat.reduceAdd]
end Go.Vk
set_option linter.unusedSimpArgs false
set_option linter.unusedVariables false
set_option maxRecDepth 100000
set_option maxHeartbeats 4000000
namespace Go.Vk
open Go.Proofs (Tryz.prog)
theorem or_shl {x d s : Nat} (hx : x < 2 ^ s) (hd : d < 4294967296) (hs : s ≤ 32) :
    IntKind.u64.wrap (((BitVec.ofInt (IntKind.bits .u64) ((x : Nat) : Int) ||| BitVec.ofInt (IntKind.bits .u64) ((d * 2 ^ s : Nat) : Int)).toNat : Nat) : Int) = ((x + d * 2 ^ s : Nat) : Int) := by
  have e : IntKind.bits .u64 = 64 := rfl
  have h2 : 2 ^ s ≤ 2 ^ 32 := Nat.pow_le_pow_right (by omega) hs
  have h3 : d * 2 ^ s ≤ 4294967295 * 2 ^ 32 := Nat.mul_le_mul (by omega) h2
  have h1 := Nat.shiftLeft_add_eq_or_of_lt hx d
  rw [Nat.shiftLeft_eq] at h1
  rw [e, BitVec.ofInt_natCast, BitVec.ofInt_natCast, BitVec.toNat_or, BitVec.toNat_ofNat, BitVec.toNat_ofNat, Nat.mod_eq_of_lt (by omega), Nat.mod_eq_of_lt (by omega), Nat.or_comm, ← h1, Nat.add_comm]
  generalize d * 2 ^ s = z at *
  rw [wrap_u64] <;> omega
theorem shl_w {x r : Nat} (hx : x < 4294967296) (hr : r ≤ 32) : IntKind.u64.wrap (((x : Nat) : Int) * 2 ^ (min r (IntKind.bits .u64))) = ((x * 2 ^ r : Nat) : Int) := by
  have e : min r (IntKind.bits .u64) = r := by
    have : IntKind.bits .u64 = 64 := rfl
    omega
  have h2 : x * 2 ^ r ≤ 4294967295 * 2 ^ 32 := Nat.mul_le_mul (by omega) (Nat.pow_le_pow_right (by omega) hr)
  have h3 : ((x : Nat) : Int) * 2 ^ r = ((x * 2 ^ r : Nat) : Int) := by simp
  rw [e, h3]
  generalize x * 2 ^ r = z at *
  rw [wrap_u64] <;> omega
theorem fn_word : fnE Tryz.prog 202 = some ⟨(Go.Proofs.Tryz.f202.body).getD .skip, 29, [.tmp 2, .tmp 3]⟩ := by kernel_rfl
theorem word_run {hk : Hooks} (B : Base hk) (hn : ∀ a h, hk 202 a h = none) {h : Hp} {va : AV} {da ba : List Nat} (ha : NumAt h va da ba) (sa : small da) (la : da.length < 10000000000) :
    ExF Tryz.prog hk 202 [va] h fun r' h1 => r' = (if da.length ≤ 2 then .tup [.int .u64 (digVal da : Nat), .bool true] else .tup [.int .u64 0, .bool false]) ∧ h1.m = h.m := by
  obtain ⟨ra, ha1, ha2⟩ := ha
  refine ExF.body fn_word (hn _ _) (by simp) ?_
  simp only [Go.Proofs.Tryz.f202, Option.getD_some]
  have ca : ∀ m nx, callF Tryz.prog hk m 123 [va] ⟨h.m, nx⟩ = some (ra, ⟨h.m, nx⟩) := fun m nx => callF_hk (B.digits _ _ _ ha1)
  (repeat refine Ex.assoc ?_); refine Ex.step (m := 0) (by simp (config := {decide := true}) only [RS, Nat.reduceAdd]; rfl) ?_
  (repeat refine Ex.assoc ?_); refine Ex.step (m := 0) (by simp (config := {decide := true}) only [RS, Nat.reduceAdd]; rfl) ?_
  (repeat refine Ex.assoc ?_); refine Ex.step (m := 0) (by simp (config := {decide := true}) only [RS, Nat.reduceAdd, fn_digits, ca]; rfl) ?_
  (repeat refine Ex.assoc ?_); refine Ex.step (m := 0) (by simp (config := {decide := true}) only [RS, Nat.reduceAdd, ha2.len]; rfl) ?_
  by_cases h2 : da.length ≤ 2
  · have c1 : ¬ ((da.length : Nat) : Int) > 2 := by omega
    refine Ex.ifF (by simp (config := {decide := true}) only [RS, Nat.reduceAdd, c1]) (Ex.skipS ?_)
    (repeat refine Ex.assoc ?_); refine Ex.step (m := 0) (by simp (config := {decide := true}) only [RS, Nat.reduceAdd, ha2.len]; rfl) ?_
    refine Ex.cut (fun env h' => env.get 4 = some (.int .u64 (digVal da : Nat)) ∧ h'.m = h.m) (Ex.block ?_) ?_
    · refine Ex.loop (fun j env h' => ∃ i : Nat, j = da.length - i ∧ i ≤ da.length ∧ env.get 4 = some (.int .u64 (digVal (da.take i) : Nat)) ∧ env.get 13 = some ra ∧ env.get 14 = some (.int .i64 da.length) ∧ env.get 15 = some (.int .i64 i) ∧ h'.m = h.m) ?_ da.length _ _ ?_
      · rintro j env h' ⟨i, rfl, h1, g4, g13, g14, g15, h6⟩
        (repeat refine Ex.assoc ?_); refine Ex.step (m := 0) (by simp (config := {decide := true}) only [RS, Nat.reduceAdd, g14, g15]; rfl) ?_
        by_cases hi : i < da.length
        · have hi1 : ((i : Nat) : Int) < (da.length : Int) := by omega
          refine Ex.ifT (by simp (config := {decide := true}) only [RS, Nat.reduceAdd, hi1]) (Ex.skipS ?_)
          refine Ex.seq (Ex.block ?_)
          have da' : DigAt h' ra da ba := ha2.ext fun b hb => by rw [h6]
          obtain ⟨ab, ao, ac, ae, rfl, hga⟩ := da'.slice hi
          have e3 : (0 ≤ ((i : Nat) : Int) ∧ ((i : Nat) : Int) < (da.length : Int)) := by omega
          (repeat refine Ex.assoc ?_); refine Ex.step (m := 0) (by simp (config := {decide := true}) only [RS, Nat.reduceAdd, g13, g15, tSl, tU32, hU32, sU32, aU32, e3, Int.toNat_natCast, hga]; rfl) ?_
          have ld := dig_lt sa i
          obtain ⟨d, hd⟩ : ∃ d, d = dig da i := ⟨_, rfl⟩
          rw [← hd] at ld
          have w1 : IntKind.u64.wrap ((d : Nat) : Int) = d := by rw [wrap_u64] <;> omega
          have w2 : IntKind.i64.wrap (32 * ((i : Nat) : Int)) = ((32 * i : Nat) : Int) := by rw [wrap_i64] <;> omega
          have c2 : ¬ ((32 * i : Nat) : Int) < 0 := by omega
          have ht := digVal_take_lt sa i
          have hB : 4294967296 ^ i = 2 ^ (32 * i) := by rw [show (4294967296 : Nat) = 2 ^ 32 by decide, ← Nat.pow_mul]
          have hor := or_shl (x := digVal (da.take i)) (d := d) (s := 32 * i) (by rw [← hB]; exact ht) ld (by omega)
          have hv : digVal (da.take i) + d * 2 ^ (32 * i) = digVal (da.take (i + 1)) := by rw [digVal_take_succ, ← hd, hB, Nat.mul_comm]
          rw [hv] at hor
          refine Ex.last (m := 0) (by simp (config := {decide := true}) only [RS, Nat.reduceAdd, g4, ← hd, tU32, tU64, w1, w2, c2, Int.toNat_natCast, shl_w ld (show 32 * i ≤ 32 by omega), hor]; rfl) ?_
          simp (config := {decide := true}) only [thenK, blockK, ite_true, ite_false, if_true, if_false]
          have w8 : IntKind.i64.wrap (((i : Nat) : Int) + 1) = ((i + 1 : Nat) : Int) := by rw [wrap_i64] <;> omega
          refine Ex.last (m := 0) (by simp (config := {decide := true}) only [RS, Nat.reduceAdd, g15, w8]; rfl) ?_
          simp (config := {decide := true}) only [thenK, blockK, ite_true, ite_false, if_true, if_false]
          exact ⟨da.length - (i + 1), by omega, i + 1, rfl, by omega, by simp (config := {decide := true}) only [RS, Nat.reduceAdd], by simp (config := {decide := true}) only [RS, Nat.reduceAdd, g13], by simp (config := {decide := true}) only [RS, Nat.reduceAdd, g14], by simp (config := {decide := true}) only [RS, Nat.reduceAdd], h6⟩
        · have hi1 : ¬ ((i : Nat) : Int) < (da.length : Int) := by omega
          refine Ex.ifF (by simp (config := {decide := true}) only [RS, Nat.reduceAdd, hi1]) (Ex.exitS ?_)
          simp (config := {decide := true}) only [thenK, blockK, ite_true, ite_false, if_true, if_false]
          have hiN : i = da.length := by omega
          subst hiN
          rw [List.take_length] at g4
          exact ⟨by simp (config := {decide := true}) only [RS, Nat.reduceAdd, g4], h6⟩
      · exact ⟨0, rfl, by omega, by simp (config := {decide := true}) only [RS, Nat.reduceAdd]; simp [digVal], by simp (config := {decide := true}) only [RS, Nat.reduceAdd], by simp (config := {decide := true}) only [RS, Nat.reduceAdd], by simp (config := {decide := true}) only [RS, Nat.reduceAdd]; rfl, rfl⟩
    · rintro env h' ⟨g4, h6⟩
      (repeat refine Ex.assoc ?_); refine Ex.step (m := 0) (by simp (config := {decide := true}) only [RS, Nat.reduceAdd, g4]; rfl) ?_
      refine Ex.ret ⟨trivial, _, by simp (config := {decide := true}) only [RS, Nat.reduceAdd]; rfl, ?_, h6⟩
      simp (config := {decide := true}) only [RS, Nat.reduceAdd]
      rw [if_pos h2]
  · have c1 : ((da.length : Nat) : Int) > 2 := by omega
    refine Ex.ifT (by simp (config := {decide := true}) only [RS, Nat.reduceAdd, c1]) ?_
    (repeat refine Ex.assoc ?_); refine Ex.step (m := 0) (by simp (config := {decide := true}) only [RS, Nat.reduceAdd]; rfl) ?_
    refine Ex.retS ⟨trivial, _, by simp (config := {decide := true}) only [RS, Nat.reduceAdd]; rfl, ?_, rfl⟩
    simp (config := {decide := true}) only [RS, Nat.reduceAdd]
    rw [if_neg h2]
end Go.Vk
set_option linter.unusedSimpArgs false
set_option linter.unusedVariables false
set_option maxRecDepth 100000
set_option maxHeartbeats 4000000
namespace Go.Vk
open Go.Proofs (Tryz.prog)
/-- How many noughts there are at the low end. -/
def tzF : Nat → Nat → Nat
  | 0, _ => 0
  | f + 1, x => if x % 2 = 1 then 0 else tzF f (x / 2) + 1
def tz (x : Nat) : Nat := tzF x x
theorem tzF_spec : ∀ (f x : Nat), 0 < x → x ≤ f → x = 2 ^ tzF f x * (x / 2 ^ tzF f x) ∧ (x / 2 ^ tzF f x) % 2 = 1
  | 0, x, h, hf => by omega
  | f + 1, x, h, hf => by
    simp only [tzF]
    split
    · rename_i h1; simp [h1]
    · rename_i h1
      have ih := tzF_spec f (x / 2) (by omega) (by omega)
      obtain ⟨a, b⟩ := ih
      have e : x / 2 ^ (tzF f (x / 2) + 1) = x / 2 / 2 ^ tzF f (x / 2) := by rw [Nat.pow_succ, Nat.mul_comm, Nat.div_div_eq_div_mul]
      rw [e]
      refine ⟨?_, b⟩
      rw [Nat.pow_succ, Nat.mul_assoc, Nat.mul_comm 2, ← Nat.mul_assoc, ← a]
      omega
theorem tz_spec {x : Nat} (h : 0 < x) : x = 2 ^ tz x * (x / 2 ^ tz x) ∧ (x / 2 ^ tz x) % 2 = 1 := tzF_spec x x h (Nat.le_refl _)
theorem low_bit {x : Nat} (h : 0 < x) (hx : x < 2 ^ 64) : x &&& (2 ^ 64 - x) = 2 ^ tz x := by
  obtain ⟨h1, h2⟩ := tz_spec h
  obtain ⟨t, ht⟩ : ∃ t, t = tz x := ⟨_, rfl⟩
  rw [← ht] at h1 h2 ⊢
  obtain ⟨q, hq⟩ : ∃ q, x / 2 ^ t = 2 * q + 1 := ⟨x / 2 ^ t / 2, by omega⟩
  rw [hq] at h1
  have hp : 0 < 2 ^ t := Nat.two_pow_pos t
  have e1 : x = 2 ^ (t + 1) * q + 2 ^ t := by rw [h1, Nat.mul_add, Nat.mul_one, Nat.pow_succ, Nat.mul_assoc]
  have e2 : x - 1 = 2 ^ (t + 1) * q + (2 ^ t - 1) := by omega
  have l1 : 2 ^ t < 2 ^ (t + 1) := by rw [Nat.pow_succ]; omega
  apply Nat.eq_of_testBit_eq
  intro i
  rw [Nat.testBit_and, show 2 ^ 64 - x = 2 ^ 64 - ((x - 1) + 1) by omega, Nat.testBit_two_pow_sub_succ (by omega), e2, Nat.testBit_two_pow_mul_add _ (by omega), Nat.testBit_two_pow_sub_one]
  conv => lhs; rw [e1]
  rw [Nat.testBit_two_pow_mul_add _ l1]
  by_cases hi : i < t + 1
  · rw [if_pos hi, if_pos hi, Nat.testBit_two_pow]
    by_cases hit : t = i
    · subst hit
      have : t < 64 := by
        rcases Nat.lt_or_ge t 64 with a | a
        · exact a
        · have := Nat.pow_le_pow_right (show 0 < 2 by omega) a
          omega
      simp [this]
    · simp [hit]
  · rw [if_neg hi, if_neg hi, Nat.testBit_two_pow]
    have : ¬ t = i := by omega
    simp [this]
    exact fun a _ => a
theorem tz_lt {x : Nat} (h : 0 < x) {n : Nat} (hx : x < 2 ^ n) : tz x < n := by
  rcases Nat.lt_or_ge (tz x) n with a | a
  · exact a
  · exfalso
    obtain ⟨h1, h2⟩ := tz_spec h
    have h3 := Nat.pow_le_pow_right (show 0 < 2 by omega) a
    have h5 : 1 ≤ x / 2 ^ tz x := by
      rcases Nat.eq_zero_or_pos (x / 2 ^ tz x) with e | e
      · rw [e] at h2; cases h2
      · exact e
    have h4 : 2 ^ tz x * 1 ≤ 2 ^ tz x * (x / 2 ^ tz x) := Nat.mul_le_mul_left _ h5
    rw [← h1] at h4
    omega
theorem fn_zeros : fnE Tryz.prog 323 = some ⟨(Go.Proofs.Tryz.f323.body).getD .skip, 11, [.tmp 2]⟩ := by kernel_rfl
theorem zeros_run {hk : Hooks} (hl : ∀ a h, hk 201 a h = none) (hn : ∀ a h, hk 323 a h = none) {h : Hp} {x : Nat} (hx0 : 0 < x) (hx : x < 18446744073709551616) :
    ExF Tryz.prog hk 323 [.int .u64 x] h fun r' h1 => r' = .int .i64 (tz x : Nat) ∧ h1.m = h.m := by
  refine ExF.body fn_zeros (hn _ _) (by simp) ?_
  simp only [Go.Proofs.Tryz.f323, Option.getD_some]
  have h0 : ((x : Int) == 0) = false := i_ne (by omega)
  (repeat refine Ex.assoc ?_); refine Ex.step (m := 0) (by simp (config := {decide := true}) only [RS, Nat.reduceAdd]; rfl) ?_
  (repeat refine Ex.assoc ?_); refine Ex.step (m := 0) (by simp (config := {decide := true}) only [RS, Nat.reduceAdd, h0]; rfl) ?_
  refine Ex.ifF (by simp (config := {decide := true}) only [RS, Nat.reduceAdd]) (Ex.skipS ?_)
  have w1 : IntKind.u64.wrap (0 - ((x : Nat) : Int)) = ((18446744073709551616 - x : Nat) : Int) := by
    simp [IntKind.wrap, IntKind.bits, IntKind.signed]
    omega
  have ht := tz_lt hx0 (n := 64) (by omega)
  have hp : 2 ^ tz x < 18446744073709551616 := Nat.pow_lt_pow_right (a := 2) (n := 64) (by omega) ht
  have w2 : IntKind.u64.wrap (((BitVec.ofInt (IntKind.bits .u64) ((x : Nat) : Int) &&& BitVec.ofInt (IntKind.bits .u64) ((18446744073709551616 - x : Nat) : Int)).toNat : Nat) : Int) = ((2 ^ tz x : Nat) : Int) := by
    have e : IntKind.bits .u64 = 64 := rfl
    have hb := low_bit hx0 (by omega)
    rw [e, BitVec.ofInt_natCast, BitVec.ofInt_natCast, BitVec.toNat_and, BitVec.toNat_ofNat, BitVec.toNat_ofNat, Nat.mod_eq_of_lt (by omega), Nat.mod_eq_of_lt (by omega)]
    rw [show 18446744073709551616 - x = 2 ^ 64 - x by omega, hb]
    generalize 2 ^ tz x = z at *
    rw [wrap_u64] <;> omega
  obtain ⟨m, r', h1', p1, rfl, p2⟩ := len_run hl (h := ⟨h.m, h.nx + 10⟩) (x0 := 2 ^ tz x) hp
  have hbl : blen (2 ^ tz x) = tz x + 1 := by
    unfold blen
    rw [if_neg (Nat.ne_of_gt (Nat.two_pow_pos _)), Nat.log2_two_pow]
  rw [hbl] at p1
  have w3 : IntKind.i64.wrap (((tz x + 1 : Nat) : Int) - 1) = (tz x : Nat) := by rw [wrap_i64] <;> omega
  (repeat refine Ex.assoc ?_); refine Ex.step (m := m) (by simp (config := {decide := true}) only [RS, Nat.reduceAdd, w1, w2, fn_len, p1, w3]; rfl) ?_
  refine Ex.ret ⟨trivial, _, by simp (config := {decide := true}) only [RS, Nat.reduceAdd]; rfl, ?_, p2⟩
  simp (config := {decide := true}) only [RS, Nat.reduceAdd]
end Go.Vk
set_option linter.unusedSimpArgs false
set_option linter.unusedVariables false
set_option maxRecDepth 100000
set_option maxHeartbeats 4000000
namespace Go.Vk
open Go.Proofs (Tryz.prog)
theorem tz_unique {x t m : Nat} (h : x = 2 ^ t * m) (hm : m % 2 = 1) : tz x = t := by
  have hx : 0 < x := by
    rw [h]; exact Nat.mul_pos (Nat.two_pow_pos t) (by omega)
  obtain ⟨h1, h2⟩ := tz_spec hx
  generalize x / 2 ^ tz x = q at h1 h2
  rcases Nat.lt_trichotomy (tz x) t with a | a | a
  · exfalso
    obtain ⟨s, hs⟩ : ∃ s, t = tz x + (s + 1) := ⟨t - tz x - 1, by omega⟩
    rw [hs, Nat.pow_add, Nat.mul_assoc] at h
    have := Nat.eq_of_mul_eq_mul_left (Nat.two_pow_pos _) (h1.symm.trans h)
    rw [Nat.pow_succ, Nat.mul_comm (2 ^ s), Nat.mul_assoc] at this
    omega
  · exact a
  · exfalso
    obtain ⟨s, hs⟩ : ∃ s, tz x = t + (s + 1) := ⟨tz x - t - 1, by omega⟩
    rw [hs, Nat.pow_add, Nat.mul_assoc] at h1
    have := Nat.eq_of_mul_eq_mul_left (Nat.two_pow_pos _) (h.symm.trans h1)
    rw [Nat.pow_succ, Nat.mul_comm (2 ^ s), Nat.mul_assoc] at this
    omega
theorem tz_digits {ds : List Nat} (hs : small ds) {i : Nat} (h0 : digVal (ds.take i) = 0) (hi : i < ds.length) (hd : dig ds i ≠ 0) : tz (digVal ds) = 32 * i + tz (dig ds i) := by
  obtain ⟨h1, h2⟩ := tz_spec (x := dig ds i) (by omega)
  have hlt : tz (dig ds i) < 32 := tz_lt (by omega) (n := 32) (by have := dig_lt hs i; omega)
  have e0 : digVal ds = 4294967296 ^ i * digVal (ds.drop i) := by
    have := digVal_append (ds.take i) (ds.drop i)
    rw [List.take_append_drop, h0, List.length_take, Nat.min_eq_left (by omega)] at this
    omega
  have hB : 4294967296 ^ i = 2 ^ (32 * i) := by rw [show (4294967296 : Nat) = 2 ^ 32 by decide, ← Nat.pow_mul]
  rw [digVal_drop hi, hB] at e0
  generalize dig ds i / 2 ^ tz (dig ds i) = m at h1 h2
  generalize digVal (ds.drop (i + 1)) = R at e0
  generalize tz (dig ds i) = t at *
  have e1 : (4294967296 : Nat) = 2 ^ t * (2 * 2 ^ (31 - t)) := by
    rw [Nat.mul_comm 2, ← Nat.pow_succ, ← Nat.pow_add, show t + (31 - t + 1) = 32 by omega]
  refine tz_unique (m := m + 2 * (2 ^ (31 - t) * R)) ?_ (by omega)
  rw [e0, h1, Nat.pow_add, Nat.mul_assoc, Nat.mul_add (2 ^ t), ← Nat.mul_assoc 2, ← Nat.mul_assoc (2 ^ t) (2 * 2 ^ (31 - t)), ← e1]
theorem fn_twos : fnE Tryz.prog 243 = some ⟨(Go.Proofs.Tryz.f243.body).getD .skip, 22, [.tmp 2]⟩ := by kernel_rfl
theorem twos_run {hk : Hooks} (B : Base hk) (hl : ∀ a h, hk 201 a h = none) (hz : ∀ a h, hk 323 a h = none) (hn : ∀ a h, hk 243 a h = none) {h : Hp} {va : AV} {da ba : List Nat} (ha : NumAt h va da ba) (sa : small da) (la : da.length < 10000000000) :
    ExF Tryz.prog hk 243 [va] h fun r' h1 => r' = .int .i64 (tz (digVal da) : Nat) ∧ h1.m = h.m := by
  obtain ⟨ra, ha1, ha2⟩ := ha
  refine ExF.body fn_twos (hn _ _) (by simp) ?_
  simp only [Go.Proofs.Tryz.f243, Option.getD_some]
  have ca : ∀ m nx, callF Tryz.prog hk m 123 [va] ⟨h.m, nx⟩ = some (ra, ⟨h.m, nx⟩) := fun m nx => callF_hk (B.digits _ _ _ ha1)
  (repeat refine Ex.assoc ?_); refine Ex.step (m := 0) (by simp (config := {decide := true}) only [RS, Nat.reduceAdd]; rfl) ?_
  (repeat refine Ex.assoc ?_); refine Ex.step (m := 0) (by simp (config := {decide := true}) only [RS, Nat.reduceAdd, fn_digits, ca, ha2.len]; rfl) ?_
  refine Ex.cut (fun env h' => digVal da = 0 ∧ h'.m = h.m) (Ex.block ?_) ?_
  · refine Ex.loop (fun j env h' => ∃ i : Nat, j = da.length - i ∧ i ≤ da.length ∧ digVal (da.take i) = 0 ∧ env.get 6 = some ra ∧ env.get 7 = some (.int .i64 da.length) ∧ env.get 8 = some (.int .i64 i) ∧ h'.m = h.m) ?_ da.length _ _ ?_
    · rintro j env h' ⟨i, rfl, h1, h2, g6, g7, g8, h6⟩
      (repeat refine Ex.assoc ?_); refine Ex.step (m := 0) (by simp (config := {decide := true}) only [RS, Nat.reduceAdd, g7, g8]; rfl) ?_
      by_cases hi : i < da.length
      · have hi1 : ((i : Nat) : Int) < (da.length : Int) := by omega
        refine Ex.ifT (by simp (config := {decide := true}) only [RS, Nat.reduceAdd, hi1]) (Ex.skipS ?_)
        refine Ex.seq (Ex.block ?_)
        have da' : DigAt h' ra da ba := ha2.ext fun b hb => by rw [h6]
        obtain ⟨ab, ao, ac, ae, rfl, hga⟩ := da'.slice hi
        have e3 : (0 ≤ ((i : Nat) : Int) ∧ ((i : Nat) : Int) < (da.length : Int)) := by omega
        (repeat refine Ex.assoc ?_); refine Ex.step (m := 0) (by simp (config := {decide := true}) only [RS, Nat.reduceAdd, g6, g8, tSl, tU32, hU32, sU32, aU32, e3, Int.toNat_natCast, hga]; rfl) ?_
        have ld := dig_lt sa i
        by_cases hd0 : dig da i = 0
        · have hd1 : ((dig da i : Int) == 0) = true := i_eq (by omega)
          (repeat refine Ex.assoc ?_); refine Ex.step (m := 0) (by simp (config := {decide := true}) only [RS, Nat.reduceAdd, hd1]; rfl) ?_
          refine Ex.cond_false (by simp (config := {decide := true}) only [RS, Nat.reduceAdd]) (Ex.skip ?_)
          simp (config := {decide := true}) only [thenK, blockK, ite_true, ite_false, if_true, if_false]
          have w8 : IntKind.i64.wrap (((i : Nat) : Int) + 1) = ((i + 1 : Nat) : Int) := by rw [wrap_i64] <;> omega
          refine Ex.last (m := 0) (by simp (config := {decide := true}) only [RS, Nat.reduceAdd, g8, w8]; rfl) ?_
          simp (config := {decide := true}) only [thenK, blockK, ite_true, ite_false, if_true, if_false]
          exact ⟨da.length - (i + 1), by omega, i + 1, rfl, by omega, by rw [digVal_take_succ, hd0, h2]; simp, by simp (config := {decide := true}) only [RS, Nat.reduceAdd, g6], by simp (config := {decide := true}) only [RS, Nat.reduceAdd, g7], by simp (config := {decide := true}) only [RS, Nat.reduceAdd], h6⟩
        · have hd1 : ((dig da i : Int) == 0) = false := i_ne (by omega)
          (repeat refine Ex.assoc ?_); refine Ex.step (m := 0) (by simp (config := {decide := true}) only [RS, Nat.reduceAdd, hd1]; rfl) ?_
          refine Ex.cond_true (by simp (config := {decide := true}) only [RS, Nat.reduceAdd]) ?_
          have w1 : IntKind.u64.wrap ((dig da i : Nat) : Int) = (dig da i : Nat) := by rw [wrap_u64] <;> omega
          have w2 : IntKind.i64.wrap (32 * ((i : Nat) : Int)) = ((32 * i : Nat) : Int) := by rw [wrap_i64] <;> omega
          have ht := tz_lt (x := dig da i) (by omega) (n := 32) (by omega)
          have hT := tz_digits sa h2 hi hd0
          have w3 : IntKind.i64.wrap (((32 * i : Nat) : Int) + ((tz (dig da i) : Nat) : Int)) = ((tz (digVal da) : Nat) : Int) := by rw [hT, wrap_i64] <;> omega
          obtain ⟨m, r', h1', p1, rfl, p2⟩ := zeros_run hl hz (h := ⟨h'.m, h'.nx + 15⟩) (x := dig da i) (by omega) (by omega)
          (repeat refine Ex.assoc ?_); refine Ex.step (m := m) (by simp (config := {decide := true}) only [RS, Nat.reduceAdd, tU32, tU64, w1, w2, fn_zeros, p1, w3]; rfl) ?_
          refine Ex.ret ?_
          simp (config := {decide := true}) only [thenK, blockK, ite_true, ite_false, if_true, if_false]
          refine ⟨trivial, _, by simp (config := {decide := true}) only [RS, Nat.reduceAdd]; rfl, ?_, by rw [p2]; exact h6⟩
          simp (config := {decide := true}) only [RS, Nat.reduceAdd]
      · have hi1 : ¬ ((i : Nat) : Int) < (da.length : Int) := by omega
        refine Ex.ifF (by simp (config := {decide := true}) only [RS, Nat.reduceAdd, hi1]) (Ex.exitS ?_)
        simp (config := {decide := true}) only [thenK, blockK, ite_true, ite_false, if_true, if_false]
        have hiN : i = da.length := by omega
        subst hiN
        rw [List.take_length] at h2
        exact ⟨h2, h6⟩
    · exact ⟨0, rfl, by omega, by simp [digVal], by simp (config := {decide := true}) only [RS, Nat.reduceAdd], by simp (config := {decide := true}) only [RS, Nat.reduceAdd], by simp (config := {decide := true}) only [RS, Nat.reduceAdd]; rfl, rfl⟩
  · rintro env h' ⟨h0, h6⟩
    (repeat refine Ex.assoc ?_); refine Ex.step (m := 0) (by simp (config := {decide := true}) only [RS, Nat.reduceAdd]; rfl) ?_
    refine Ex.ret ⟨trivial, _, by simp (config := {decide := true}) only [RS, Nat.reduceAdd]; rfl, ?_, h6⟩
    simp (config := {decide := true}) only [RS, Nat.reduceAdd]
    rw [h0]; rfl
end Go.Vk
set_option linter.unusedSimpArgs false
set_option linter.unusedVariables false
namespace Go.Vk
theorem Ex.forget {P : Program} {hk : Hooks} {nt : Nat} {c : Code} {env : Env} {h : Hp} {K : AEx → Env → Hp → Prop} (H : ∀ E : Env, (∀ t, E.get t = env.get t) → Ex P hk nt c E h K) : Ex P hk nt c env h K := H env fun _ => rfl
theorem Ex.forget2 {P : Program} {hk : Hooks} {nt : Nat} {c : Code} {env : Env} {h : Hp} {K : AEx → Env → Hp → Prop} (H : ∀ (E : Env) (h' : Hp), (∀ t, E.get t = env.get t) → h'.m = h.m → h.nx ≤ h'.nx → Ex P hk nt c E h' K) : Ex P hk nt c env h K := H env h (fun _ => rfl) rfl (Nat.le_refl _)
/-- A call, with whatever more fuel. -/
theorem ExF.lift {P : Program} {hk : Hooks} {f : FuncId} {args : List AV} {h : Hp} {K : AV → Hp → Prop} (H : ExF P hk f args h K) : ∃ (m : Nat) (r : AV) (h1 : Hp), (∀ n, m ≤ n → callF P hk n f args h = some (r, h1)) ∧ K r h1 := by
  obtain ⟨n, r, h1, h2, h3⟩ := H
  exact ⟨n, r, h1, fun k hk => callF_le hk _ _ _ _ h2, h3⟩
theorem kn_keep {A Bv W T top q : Nat} (hA : A < (T + 1) * W) (hB : top * W ≤ Bv) (h : T + 1 ≤ q * top) : A < q * Bv := by
  have h1 : (T + 1) * W ≤ q * top * W := Nat.mul_le_mul_right _ h
  have h2 : q * (top * W) ≤ q * Bv := Nat.mul_le_mul_left _ hB
  rw [Nat.mul_assoc] at h1
  omega
theorem kn_exit {A Bv W T top p : Nat} (hA : T * W ≤ A) (hB : Bv < (top + 1) * W) (h : (p + 1) * top ≤ T) (hp : p ≤ top) : p * Bv ≤ A := by
  have h1 : p * Bv ≤ p * ((top + 1) * W) := Nat.mul_le_mul_left _ (Nat.le_of_lt hB)
  have h2 : p * (top + 1) ≤ T := by
    rw [Nat.mul_succ]; rw [Nat.succ_mul] at h; omega
  have h3 : p * (top + 1) * W ≤ T * W := Nat.mul_le_mul_right _ h2
  rw [← Nat.mul_assoc] at h1
  omega
theorem kn_init {A Bv W two a2 b1 b2 : Nat} (ha2 : a2 < 4294967296) (hA : A < (two * 4294967296 + a2 + 1) * W) (hB : (b1 * 4294967296 + b2) * W ≤ Bv) (hBp : 0 < Bv) : A / Bv * b1 ≤ two := by
  have h0 : A / Bv * Bv ≤ A := Nat.div_mul_le_self A Bv
  generalize A / Bv = Q at *
  have h1 : Q * ((b1 * 4294967296 + b2) * W) ≤ Q * Bv := Nat.mul_le_mul_left _ hB
  have h2 : (two * 4294967296 + a2 + 1) * W ≤ ((two + 1) * 4294967296) * W := Nat.mul_le_mul_right _ (by omega)
  have h3 : Q * (b1 * 4294967296) * W ≤ Q * ((b1 * 4294967296 + b2) * W) := by
    rw [Nat.mul_assoc]; exact Nat.mul_le_mul_left _ (Nat.mul_le_mul_right _ (by omega))
  have h4 : Q * (b1 * 4294967296) * W < ((two + 1) * 4294967296) * W := by omega
  have h5 : Q * (b1 * 4294967296) < (two + 1) * 4294967296 := Nat.lt_of_mul_lt_mul_right h4
  rw [← Nat.mul_assoc] at h5
  have h6 := Nat.lt_of_mul_lt_mul_right h5
  omega
/-- A number by its three highest digits. -/
theorem top_three {w : List Nat} (hs : small w) {n : Nat} (hn : 2 ≤ n) : digVal (w.take (n + 1)) = (dig w n * 4294967296 * 4294967296 + dig w (n - 1) * 4294967296 + dig w (n - 2)) * 4294967296 ^ (n - 2) + digVal (w.take (n - 2)) ∧ digVal (w.take (n - 2)) < 4294967296 ^ (n - 2) := by
  obtain ⟨m, rfl⟩ : ∃ m, n = m + 2 := ⟨n - 2, by omega⟩
  simp only [Nat.add_sub_cancel, show m + 2 - 1 = m + 1 by omega]
  refine ⟨?_, digVal_take_lt hs m⟩
  rw [digVal_take_succ, digVal_take_succ, digVal_take_succ]
  simp only [Nat.pow_succ]
  generalize 4294967296 ^ m = P
  grind
theorem top_two {w : List Nat} (hs : small w) {n : Nat} (hn : 2 ≤ n) : digVal (w.take n) = (dig w (n - 1) * 4294967296 + dig w (n - 2)) * 4294967296 ^ (n - 2) + digVal (w.take (n - 2)) ∧ digVal (w.take (n - 2)) < 4294967296 ^ (n - 2) := by
  obtain ⟨m, rfl⟩ : ∃ m, n = m + 2 := ⟨n - 2, by omega⟩
  simp only [Nat.add_sub_cancel, show m + 2 - 1 = m + 1 by omega]
  refine ⟨?_, digVal_take_lt hs m⟩
  rw [digVal_take_succ, digVal_take_succ, Nat.pow_succ]
  generalize 4294967296 ^ m = P
  grind
theorem sub_digit {a lo : Nat} {s : Int} (hs : s = 0 ∨ s = -1) (ha : a < 4294967296) (hl : lo < 4294967296) :
    ∃ (x : Nat) (s' : Int), (s' = 0 ∨ s' = -1) ∧ x < 4294967296 ∧ s + ((a : Int) - (lo : Int)) = x + 4294967296 * s' ∧ IntKind.u32.wrap (s + ((a : Int) - (lo : Int))) = (x : Int) ∧
      (s + ((a : Int) - (lo : Int))).fdiv (2 ^ (min (Int.toNat 32) (IntKind.bits .i64))) = s' ∧ (s' = 0 ↔ 0 ≤ s + ((a : Int) - (lo : Int))) := by
  rw [show (2 ^ (min (Int.toNat 32) (IntKind.bits .i64)) : Int) = 4294967296 by decide]
  by_cases h : s + ((a : Int) - (lo : Int)) < 0
  · refine ⟨(s + ((a : Int) - (lo : Int)) + 4294967296).toNat, -1, .inr rfl, by omega, by omega, by rw [wrap_u32]; omega, ?_, by omega⟩
    rw [Int.fdiv_eq_ediv_of_nonneg _ (by omega)]; omega
  · refine ⟨(s + ((a : Int) - (lo : Int))).toNat, 0, .inl rfl, by omega, by omega, by rw [wrap_u32]; omega, ?_, by omega⟩
    rw [Int.fdiv_eq_ediv_of_nonneg _ (by omega)]; omega
theorem sub_sum {V W D P q x y a s s' c c' lo : Int} (hV : V = W - q * D - P * (s - c)) (hx : s + (a - lo) = x + 4294967296 * s') (hl : c + q * y = lo + 4294967296 * c') : V + P * x = (W + P * a) - q * (D + P * y) - (P * 4294967296) * (s' - c') := by
  have e1 : x = s + (a - lo) - 4294967296 * s' := by omega
  have e2 : lo = c + q * y - 4294967296 * c' := by omega
  subst e1 e2 hV
  grind
/-- Digits between others. -/
theorem win_get {h : Hp} {ab : Nat} {pre w suf : List Nat} (hb : h.m.get ab = some (.row (u32s (pre ++ w ++ suf)) false)) {i : Nat} (hi : i < w.length) (nx : Nat) : getCells ⟨h.m, nx⟩ ab (pre.length + i * 1) 1 = some [.int .u32 (dig w i : Nat)] := by
  have := row_get (h := ⟨h.m, nx⟩) (ob := ab) (out := pre ++ w ++ suf) hb (i := pre.length + i) (by simp; omega)
  rw [Nat.mul_one, Nat.zero_add] at this
  rw [Nat.mul_one, this]
  congr 4
  unfold dig
  rw [List.getD_eq_getElem?_getD, List.getD_eq_getElem?_getD, List.append_assoc, List.getElem?_append_right (by omega), Nat.add_sub_cancel_left, List.getElem?_append_left hi]
theorem win_put {h : Hp} {ab : Nat} {pre w suf : List Nat} (hb : h.m.get ab = some (.row (u32s (pre ++ w ++ suf)) false)) {i x : Nat} (hi : i < w.length) (nx : Nat) :
    putCells ⟨h.m, nx⟩ ab (pre.length + i * 1) [.int .u32 (x : Int)] = some ⟨h.m.set ab (.row (u32s (pre ++ w.set i x ++ suf)) false), nx⟩ := by
  have := putCells_u32 (h := ⟨h.m, nx⟩) (ob := ab) (out := pre ++ w ++ suf) hb (i := pre.length + i) (x := x) (by simp; omega)
  rw [Nat.mul_one, Nat.zero_add] at this
  rw [Nat.mul_one, this, List.append_assoc, List.set_append_right _ _ (by omega), Nat.add_sub_cancel_left, List.set_append_left _ _ hi, ← List.append_assoc]
theorem digVal_set_take {w : List Nat} {i x : Nat} (hi : i < w.length) : digVal ((w.set i x).take (i + 1)) = digVal (w.take i) + 4294967296 ^ i * x := by
  rw [take_set hi, digVal_append, List.length_take, Nat.min_eq_left (by omega)]
  simp [digVal]
end Go.Vk
set_option linter.unusedSimpArgs false
set_option linter.unusedVariables false
set_option maxRecDepth 100000
set_option maxHeartbeats 4000000
namespace Go.Vk
open Go.Proofs (Tryz.prog)
abbrev hk1 : Hooks := orHk hk0 (pureHk g1)
theorem hk1_ok : CallOK Tryz.prog hk1 := orHk_ok hk0_ok (pureHk_ok g1_ok)
theorem hk1_dom : DomOK hk1 := orHk_dom hk0_dom pureHk_dom
theorem base1 : Base2 hk1 := {
  digits := fun h v r hh => by simp (config := {decide := true}) only [hk1, orHk, base0.digits h v r hh]
  at' := fun h sl i r hh => by simp (config := {decide := true}) only [hk1, orHk, base0.at' h sl i r hh]
  of := fun a h => rfl
  cmp := fun h va vb a b ha hb => by simp (config := {decide := true}) only [hk1, orHk, hk0, pureHk, g0, g1, two, ha, hb, if_true, if_false] }
theorem closes_pair {c c2 : Cx} {h h2 h' : Hp} {v r : AV} {b : Bool} (H : Closes c h c2 h2 h' v r) : Closes c h c2 h2 h' (.tup [v, .bool b]) (.tup [r, .bool b]) := by
  obtain ⟨S, hS, hcl⟩ := H
  refine ⟨S, hS, fun c' x g1 g2 g3 => ?_⟩
  simp only [VR, VRL] at g3 ⊢
  obtain ⟨vs, rfl, y, ys, e1, h1, z, zs, e2, h2, e3⟩ := g3
  exact ⟨vs, rfl, y, ys, e1, hcl c' y g1 g2 h1, z, zs, e2, h2, e3⟩
def g2 : FuncId → List AV → Hp → Option AV := fun f args h =>
  if f = 75 then match args with
    | [.int .u64 x] => if 0 ≤ x ∧ x < 18446744073709551616 then some (.opq (.nat x.toNat)) else none
    | _ => none
  else if f = 134 then two h (fun a b => some (if a < b then .tup [.nilp, .bool false] else .tup [.opq (.nat (a - b)), .bool true])) args
  else none
theorem g2_ok : ∀ f args h r, g2 f args h = some r → PureOK Tryz.prog f args h r := by
  intro f args h r hh c vs hr hgl hv
  unfold g2 at hh
  split at hh
  · rename_i hf
    subst hf
    split at hh
    · rename_i x
      split at hh
      · rename_i hx
        injection hh with hh; subst hh
        obtain ⟨n, rfl⟩ : ∃ n : Nat, x = (n : Int) := ⟨x.toNat, by omega⟩
        refine pure_of_run prog_mixed hk1_ok hk1_dom hr hgl (Opens.refl hr) hv ?_
        obtain ⟨m, r', h1, q1, q2⟩ := Of_run base1.toBase (fun _ _ => rfl) hr.fr (x := n) (by omega)
        exact ⟨m, _, h1, q1, closes_made (Opens.refl hr) q2 (fun b hb => by cases hb)⟩
      · cases hh
    · cases hh
  split at hh
  · rename_i hf
    subst hf
    obtain ⟨va, vb, a, b, rfl, ha, hb, hg⟩ := two_some hh
    injection hg with hg; subst hg
    obtain ⟨c2, h2, wa, wb, da, db, ba, bb, ho, p1, p2, p3, p4, p5, p6, p7, rfl, rfl⟩ := open_two hr hv ha hb
    refine pure_of_run prog_mixed hk1_ok hk1_dom hr hgl ho p1 ?_
    obtain ⟨n, r', h1, q1, q2⟩ := less_run base1 (fun _ _ => rfl) ho.rel.fr p2 p3 p4 p5 p6 p7
    split at q2
    · rename_i hlt
      obtain ⟨rfl, q3⟩ := q2
      rw [if_pos hlt]
      exact ⟨n, _, h1, q1, fun b x hb => by rw [q3]; exact ho.sub _ _ hb, closes_pair (closes_flat rfl)⟩
    · rename_i hlt
      obtain ⟨v, rfl, q3⟩ := q2
      rw [if_neg hlt]
      obtain ⟨k1, k2⟩ := closes_made ho q3 (fun b hb => by cases hb)
      exact ⟨n, _, h1, q1, k1, closes_pair k2⟩
  cases hh
end Go.Vk
set_option linter.unusedSimpArgs false
set_option linter.unusedVariables false
set_option maxRecDepth 100000
set_option maxHeartbeats 4000000
namespace Go.Vk
open Go.Proofs (Tryz.prog)
theorem fn_step : fnE Tryz.prog 206 = some ⟨(Go.Proofs.Tryz.f206.body).getD .skip, 171, [.tmp 4]⟩ := by kernel_rfl
theorem slice_get {h : Hp} {bb bo : Nat} {db : List Nat} (hb : getCells h bb bo db.length = some (u32s db)) {i : Nat} (hi : i < db.length) (nx : Nat) : getCells ⟨h.m, nx⟩ bb (bo + i * 1) 1 = some [.int .u32 (dig db i : Nat)] := by
  rw [Nat.mul_one]; exact u32s_get (h := ⟨h.m, nx⟩) hi hb
theorem getCells_ne {h h' : Hp} {bb bo n : Nat} (he : h'.m.get bb = h.m.get bb) : getCells h' bb bo n = getCells h bb bo n := by
  unfold getCells; rw [he]
theorem step_run {hk : Hooks} (B : Base hk) (hn : ∀ a h, hk 206 a h = none) {h : Hp} (hf : h.fr) {ab bb bo ac bc n : Nat} {ae be : Bool} {pre w suf db : List Nat} (ha : h.m.get ab = some (.row (u32s (pre ++ w ++ suf)) false)) (hl : w.length = n + 1) (sw : small w)
    (hb : getCells h bb bo db.length = some (u32s db)) (hnb : db.length = n) (hn2 : 2 ≤ n) (hnl : n < 10000000000) (sb : small db) (hne : ab ≠ bb) (htop : dig db (n - 1) ≠ 0) (hA : digVal w < 4294967296 * digVal db) :
    ExF Tryz.prog hk 206 [.slice ab pre.length (n + 1) ac ae 1, .slice bb bo n bc be 1] h fun r' h1 => ∃ (q : Nat) (w' : List Nat), r' = .int .u32 q ∧ q = digVal w / digVal db ∧ w'.length = n + 1 ∧ small w' ∧
      h.nx ≤ h1.nx ∧ (∀ b, h1.m.get b = if b = ab then some (.row (u32s (pre ++ w' ++ suf)) false) else h.m.get b) ∧ digVal w' = digVal w % digVal db := by
  refine ExF.body fn_step (hn _ _) (by simp) ?_
  simp only [Go.Proofs.Tryz.f206, Option.getD_some]
  have hwt : w.take (n + 1) = w := List.take_of_length_le (by omega)
  have hdt : db.take n = db := List.take_of_length_le (by omega)
  obtain ⟨t1, t2⟩ := top_three sw hn2
  obtain ⟨t3, t4⟩ := top_two sb hn2
  rw [hwt] at t1
  rw [hdt] at t3
  have a0 := dig_lt sw n
  have a1 := dig_lt sw (n - 1)
  have a2 := dig_lt sw (n - 2)
  have b1 := dig_lt sb (n - 1)
  have b2 := dig_lt sb (n - 2)
  have ga0 := fun nx => win_get ha (i := n) (by omega) nx
  have ga1 := fun nx => win_get ha (i := n - 1) (by omega) nx
  have ga2 := fun nx => win_get ha (i := n - 2) (by omega) nx
  have gb1 := fun nx => slice_get hb (i := n - 1) (by omega) nx
  have gb2 := fun nx => slice_get hb (i := n - 2) (by omega) nx
  obtain ⟨d0, hd0⟩ : ∃ d, d = dig w n := ⟨_, rfl⟩
  obtain ⟨d1, hd1⟩ : ∃ d, d = dig w (n - 1) := ⟨_, rfl⟩
  obtain ⟨d2, hd2⟩ : ∃ d, d = dig w (n - 2) := ⟨_, rfl⟩
  obtain ⟨e1, he1⟩ : ∃ d, d = dig db (n - 1) := ⟨_, rfl⟩
  obtain ⟨e2, he2⟩ : ∃ d, d = dig db (n - 2) := ⟨_, rfl⟩
  rw [← hd0] at ga0 a0 t1
  rw [← hd1] at ga1 a1 t1
  rw [← hd2] at ga2 a2 t1
  rw [← he1] at gb1 b1 t3 htop
  rw [← he2] at gb2 b2 t3
  obtain ⟨two, htwo⟩ : ∃ t, t = 4294967296 * d0 + d1 := ⟨_, rfl⟩
  obtain ⟨T, hT⟩ : ∃ T, T = 4294967296 * two + d2 := ⟨_, rfl⟩
  obtain ⟨top, htp⟩ : ∃ t, t = 4294967296 * e1 + e2 := ⟨_, rfl⟩
  obtain ⟨W, hW⟩ : ∃ W, W = 4294967296 ^ (n - 2) := ⟨_, rfl⟩
  rw [← hW] at t1 t2 t3 t4
  have hA1 : digVal w < (T + 1) * W := by
    rw [t1, show d0 * 4294967296 * 4294967296 + d1 * 4294967296 + d2 = T by omega, Nat.succ_mul]; omega
  have hA2 : T * W ≤ digVal w := by
    rw [t1, show d0 * 4294967296 * 4294967296 + d1 * 4294967296 + d2 = T by omega]; omega
  have hB1 : top * W ≤ digVal db := by
    rw [t3, show e1 * 4294967296 + e2 = top by omega]; omega
  have hB2 : digVal db < (top + 1) * W := by
    rw [t3, show e1 * 4294967296 + e2 = top by omega, Nat.succ_mul]; omega
  have hBp : 0 < digVal db := by
    have : 0 < W := by rw [hW]; exact Nat.pow_pos (by omega)
    have : 1 * W ≤ top * W := Nat.mul_le_mul_right _ (by omega)
    omega
  obtain ⟨Q, hQ⟩ : ∃ Q, Q = digVal w / digVal db := ⟨_, rfl⟩
  have hQ1 : Q < 4294967296 := by rw [hQ]; exact Nat.div_lt_of_lt_mul (by rw [Nat.mul_comm]; exact hA)
  have hQ2 : Q * e1 ≤ two := by
    rw [hQ]
    refine kn_init a2 (W := W) (b2 := e2) ?_ ?_ hBp
    · rw [show two * 4294967296 + d2 = T by omega]; exact hA1
    · rw [show e1 * 4294967296 + e2 = top by omega]; exact hB1
  have w1 : IntKind.i64.wrap ((n : Int) - 1) = ((n - 1 : Nat) : Int) := by rw [wrap_i64] <;> omega
  have w2 : IntKind.i64.wrap ((n : Int) - 2) = ((n - 2 : Nat) : Int) := by rw [wrap_i64] <;> omega
  have c0 : (0 ≤ ((n : Nat) : Int) ∧ ((n : Nat) : Int) < ((n + 1 : Nat) : Int)) := by omega
  have c1 : (0 ≤ ((n - 1 : Nat) : Int) ∧ ((n - 1 : Nat) : Int) < ((n + 1 : Nat) : Int)) := by omega
  have c2 : (0 ≤ ((n - 2 : Nat) : Int) ∧ ((n - 2 : Nat) : Int) < ((n + 1 : Nat) : Int)) := by omega
  have c3 : (0 ≤ ((n - 1 : Nat) : Int) ∧ ((n - 1 : Nat) : Int) < ((n : Nat) : Int)) := by omega
  have c4 : (0 ≤ ((n - 2 : Nat) : Int) ∧ ((n - 2 : Nat) : Int) < ((n : Nat) : Int)) := by omega
  have v0 : IntKind.u64.wrap ((d0 : Nat) : Int) = (d0 : Nat) := by rw [wrap_u64] <;> omega
  have v1 : IntKind.u64.wrap ((d1 : Nat) : Int) = (d1 : Nat) := by rw [wrap_u64] <;> omega
  have v2 : IntKind.u64.wrap ((d2 : Nat) : Int) = (d2 : Nat) := by rw [wrap_u64] <;> omega
  have v3 : IntKind.u64.wrap ((e1 : Nat) : Int) = (e1 : Nat) := by rw [wrap_u64] <;> omega
  have v4 : IntKind.u64.wrap ((e2 : Nat) : Int) = (e2 : Nat) := by rw [wrap_u64] <;> omega
  have hlt : ab < h.nx := by
    rcases Nat.lt_or_ge ab h.nx with a | a
    · exact a
    · rw [hf ab a] at ha; cases ha
  have hblt : ∀ k, h.nx ≤ k → ab.blt k = true := fun k hk => by
    have : Nat.ble (ab + 1) k = true := Nat.ble_eq_true_of_le (by omega)
    exact this
  have hlb : bb < h.nx := by
    obtain ⟨all, ro, h0, _⟩ := getCells_some hb
    rcases Nat.lt_or_ge bb h.nx with a | a
    · exact a
    · rw [hf bb a] at h0; cases h0
  have hbblt : ∀ k, h.nx ≤ k → bb.blt k = true := fun k hk => by
    have : Nat.ble (bb + 1) k = true := Nat.ble_eq_true_of_le (by omega)
    exact this
  (repeat refine Ex.assoc ?_); refine Ex.step (m := 0) (by simp (config := {decide := true}) only [RS, Nat.reduceAdd]; rfl) ?_
  (repeat refine Ex.assoc ?_); refine Ex.step (m := 0) (by simp (config := {decide := true}) only [RS, Nat.reduceAdd, aLen, tSl]; rfl) ?_
  refine Ex.forget fun E hE => ?_; have k0 := hE 0; simp (config := {decide := true}) only [RS, Nat.reduceAdd] at k0; have k1 := hE 1; simp (config := {decide := true}) only [RS, Nat.reduceAdd] at k1; have k5 := hE 5; simp (config := {decide := true}) only [RS, Nat.reduceAdd] at k5; clear hE; have g0 := k0; clear k0; have g1 := k1; clear k1; have g5 := k5; clear k5
  have hbl2 := hblt (h.nx + 4) (by omega)
  have hor : IntKind.u64.wrap (((BitVec.ofInt (IntKind.bits .u64) ((4294967296 * d0 : Nat) : Int) ||| BitVec.ofInt (IntKind.bits .u64) ((d1 : Nat) : Int)).toNat : Nat) : Int) = ((two : Nat) : Int) := by rw [htwo]; exact or_half a0 a1
  (repeat refine Ex.assoc ?_); refine Ex.step (m := 0) (by rw [drawR (B := [0, 0, 3, 7, 15, 31, 0, 0, 128, 448, 960, 1984, 4095, 8191]) (ord := [0, 1, 2, 3, 4, 5, 6, 7, 8, 9, 10, 11, 12, 13]) (by kernel_rfl) (by kernel_rfl) (by kernel_rfl)]; simp (config := {decide := true}) only [RS, Nat.reduceAdd, drawOps, drawStep, readOk, readsA, segsOk, blkOk, Bool.true_or, Bool.or_true, AV.beqL_refl, hbl2, g0, g1, g5, tSl, tU32, tU64, hU32, sU32, aU32, c0, c1, Int.toNat_natCast, w1, ga0, ga1, v0, v1, shl32 a0, hor]; rfl) ?_
  refine Ex.forget fun E hE => ?_; have k0 := hE 0; simp (config := {decide := true}) only [RS, Nat.reduceAdd, g0, g1, g5] at k0; have k1 := hE 1; simp (config := {decide := true}) only [RS, Nat.reduceAdd, g0, g1, g5] at k1; have k5 := hE 5; simp (config := {decide := true}) only [RS, Nat.reduceAdd, g0, g1, g5] at k5; have k6 := hE 6; simp (config := {decide := true}) only [RS, Nat.reduceAdd, g0, g1, g5] at k6; clear hE g0 g1 g5; have g0 := k0; clear k0; have g1 := k1; clear k1; have g5 := k5; clear k5; have g6 := k6; clear k6
  -- the first guess
  have hz1 : ¬ ((e1 : Nat) : Int) = 0 := by omega
  have htwo2 : two < 18446744073709551616 := by omega
  obtain ⟨q0, hq0⟩ : ∃ q, q = min (two / e1) 4294967295 := ⟨_, rfl⟩
  have hdm := Nat.div_add_mod two e1
  have hQe : Q ≤ two / e1 := (Nat.le_div_iff_mul_le (by omega)).2 hQ2
  have hmin : (if (4294967295 : Int) < ((two / e1 : Nat) : Int) then 4294967295 else ((two / e1 : Nat) : Int)) = ((q0 : Nat) : Int) := by
    rw [hq0]
    generalize two / e1 = z
    split <;> omega
  (repeat refine Ex.assoc ?_); refine Ex.step (m := 0) (by simp (config := {decide := true}) only [RS, Nat.reduceAdd, g0, g1, g5, g6, tSl, tU32, tU64, hU32, sU32, aU32, c3, Int.toNat_natCast, w1, gb1, v3, hz1, quo_u64 htwo2, minA, hmin]; rfl) ?_
  refine Ex.forget fun E hE => ?_; have k0 := hE 0; simp (config := {decide := true}) only [RS, Nat.reduceAdd, g0, g1, g5, g6] at k0; have k1 := hE 1; simp (config := {decide := true}) only [RS, Nat.reduceAdd, g0, g1, g5, g6] at k1; have k5 := hE 5; simp (config := {decide := true}) only [RS, Nat.reduceAdd, g0, g1, g5, g6] at k5; have k6 := hE 6; simp (config := {decide := true}) only [RS, Nat.reduceAdd, g0, g1, g5, g6] at k6; have k7 := hE 7; simp (config := {decide := true}) only [RS, Nat.reduceAdd, g0, g1, g5, g6] at k7; clear hE g0 g1 g5 g6; have g0 := k0; clear k0; have g1 := k1; clear k1; have g5 := k5; clear k5; have g6 := k6; clear k6; have g7 := k7; clear k7
  have hq1 : q0 * e1 ≤ two := by
    have h1 : q0 ≤ two / e1 := by rw [hq0]; exact Nat.min_le_left _ _
    exact (Nat.le_div_iff_mul_le (by omega)).1 h1
  have hq2 : q0 < 4294967296 := by omega
  have hq3 : Q ≤ q0 := by rw [hq0]; exact Nat.le_min.2 ⟨hQe, by omega⟩
  clear hmin hq0 hQe hdm
  have x1 : IntKind.u64.wrap (((q0 : Nat) : Int) * ((e1 : Nat) : Int)) = ((q0 * e1 : Nat) : Int) := by
    rw [← Int.natCast_mul]; generalize q0 * e1 = z at *; rw [wrap_u64] <;> omega
  obtain ⟨r0, hr0⟩ : ∃ r, two = q0 * e1 + r := ⟨two - q0 * e1, by omega⟩
  have x2 : IntKind.u64.wrap (((two : Nat) : Int) - ((q0 * e1 : Nat) : Int)) = ((r0 : Nat) : Int) := by
    generalize q0 * e1 = z at *; rw [wrap_u64] <;> omega
  (repeat refine Ex.assoc ?_); refine Ex.step (m := 0) (by simp (config := {decide := true}) only [RS, Nat.reduceAdd, g0, g1, g5, g6, g7, tSl, tU32, tU64, hU32, sU32, aU32, c3, Int.toNat_natCast, w1, gb1, v3, x1, x2]; rfl) ?_
  refine Ex.forget fun E hE => ?_; have k0 := hE 0; simp (config := {decide := true}) only [RS, Nat.reduceAdd, g0, g1, g5, g6, g7] at k0; have k1 := hE 1; simp (config := {decide := true}) only [RS, Nat.reduceAdd, g0, g1, g5, g6, g7] at k1; have k5 := hE 5; simp (config := {decide := true}) only [RS, Nat.reduceAdd, g0, g1, g5, g6, g7] at k5; have k7 := hE 7; simp (config := {decide := true}) only [RS, Nat.reduceAdd, g0, g1, g5, g6, g7] at k7; have k8 := hE 8; simp (config := {decide := true}) only [RS, Nat.reduceAdd, g0, g1, g5, g6, g7] at k8; clear hE g0 g1 g5 g6 g7; have g0 := k0; clear k0; have g1 := k1; clear k1; have g5 := k5; clear k5; have g7 := k7; clear k7; have g8 := k8; clear k8
  clear x1 x2
  -- the guess made better
  refine Ex.cut (fun env h' => ∃ q : Nat, q < 4294967296 ∧ Q ≤ q ∧ q ≤ Q + 1 ∧ env.get 0 = some (.slice ab pre.length (n + 1) ac ae 1) ∧ env.get 1 = some (.slice bb bo n bc be 1) ∧ env.get 5 = some (.int .i64 n) ∧ env.get 7 = some (.int .u64 q) ∧ h'.m = h.m ∧ h.nx ≤ h'.nx) (Ex.block ?_) ?_
  · refine Ex.loop (fun k env h' => ∃ r : Nat, k < 4294967296 ∧ Q ≤ k ∧ two = k * e1 + r ∧ r < 18446744073709551616 ∧ env.get 0 = some (.slice ab pre.length (n + 1) ac ae 1) ∧ env.get 1 = some (.slice bb bo n bc be 1) ∧ env.get 5 = some (.int .i64 n) ∧ env.get 7 = some (.int .u64 k) ∧ env.get 8 = some (.int .u64 r) ∧ h'.m = h.m ∧ h.nx ≤ h'.nx) ?_ q0 _ _ ?_
    · rintro q env h' ⟨r, i1, i2, i3, i4, g0, g1, g5, g7, g8, i5, i6⟩
      have hexit : q * top ≤ T → q ≤ Q + 1 := fun hle => by
        rcases Nat.eq_zero_or_pos q with h0 | h0
        · omega
        · obtain ⟨p, rfl⟩ : ∃ p, q = p + 1 := ⟨q - 1, by omega⟩
          have := kn_exit hA2 hB2 hle (by omega)
          have : p ≤ Q := by rw [hQ]; exact (Nat.le_div_iff_mul_le hBp).2 this
          omega
      have hqt : q * top = 4294967296 * (q * e1) + q * e2 := by rw [htp, Nat.mul_add, Nat.mul_left_comm]
      have hblt5 := hblt h'.nx i6
      have hbblt5 := hbblt h'.nx i6
      by_cases hr : r ≤ 4294967295
      · have hr' : ((r : Nat) : Int) ≤ 4294967295 := by omega
        have hqe : q * e2 ≤ 4294967295 * 4294967295 := Nat.mul_le_mul (by omega) (by omega)
        have x1 : IntKind.u64.wrap (((q : Nat) : Int) * ((e2 : Nat) : Int)) = ((q * e2 : Nat) : Int) := by
          rw [← Int.natCast_mul]; generalize q * e2 = z at *; rw [wrap_u64] <;> omega
        have x2 := or_half (r := r) (d := d2) (by omega) a2
        have hbl2 := hblt (h'.nx) i6
        have hbb2 := hbblt (h'.nx) i6
        have ga2' := fun nx => (getCells_ne (h := ⟨h.m, nx⟩) (h' := ⟨h'.m, nx⟩) (bb := ab) (bo := pre.length + (n - 2) * 1) (n := 1) (by rw [i5])).trans (ga2 nx)
        have gb2' := fun nx => (getCells_ne (h := ⟨h.m, nx⟩) (h' := ⟨h'.m, nx⟩) (bb := bb) (bo := bo + (n - 2) * 1) (n := 1) (by rw [i5])).trans (gb2 nx)
        (repeat refine Ex.assoc ?_); refine Ex.step (m := 0) (by rw [drawR (B := [0, 1, 3, 7, 7, 7, 39, 119, 247, 503, 1023, 7, 2055, 7, 7, 16391, 57351, 122887, 253959, 522247, 1048575, 2097151]) (ord := [0, 1, 2, 3, 4, 5, 6, 7, 8, 9, 10, 11, 12, 13, 14, 15, 16, 17, 18, 19, 20, 21]) (by kernel_rfl) (by kernel_rfl) (by kernel_rfl)]; simp (config := {decide := true}) only [RS, Nat.reduceAdd, drawOps, drawStep, readOk, readsA, segsOk, blkOk, Bool.true_or, Bool.or_true, AV.beqL_refl, hbl2, hbb2, g0, g1, g5, g7, g8, hr', tSl, tU32, tU64, hU32, sU32, aU32, c2, c4, Int.toNat_natCast, w2, ga2', gb2', v2, v4, shl32 (show r < 4294967296 by omega), x1, x2]; rfl) ?_
        refine Ex.forget fun E hE => ?_; have k0 := hE 0; simp (config := {decide := true}) only [RS, Nat.reduceAdd, g0, g1, g5, g7, g8] at k0; have k1 := hE 1; simp (config := {decide := true}) only [RS, Nat.reduceAdd, g0, g1, g5, g7, g8] at k1; have k5 := hE 5; simp (config := {decide := true}) only [RS, Nat.reduceAdd, g0, g1, g5, g7, g8] at k5; have k7 := hE 7; simp (config := {decide := true}) only [RS, Nat.reduceAdd, g0, g1, g5, g7, g8] at k7; have k8 := hE 8; simp (config := {decide := true}) only [RS, Nat.reduceAdd, g0, g1, g5, g7, g8] at k8; have k71 := hE 71; simp (config := {decide := true}) only [RS, Nat.reduceAdd, g0, g1, g5, g7, g8] at k71; clear hE g0 g1 g5 g7 g8; have g0 := k0; clear k0; have g1 := k1; clear k1; have g5 := k5; clear k5; have g7 := k7; clear k7; have g8 := k8; clear k8; have g71 := k71; clear k71
        by_cases hc : q * e2 > 4294967296 * r + d2
        · have hc' : ((q * e2 : Nat) : Int) > ((4294967296 * r + d2 : Nat) : Int) := by omega
          refine Ex.ifT (by simp (config := {decide := true}) only [RS, Nat.reduceAdd, g71, hc']) (Ex.skipS ?_)
          have hlt : digVal w < q * digVal db := kn_keep hA1 hB1 (by rw [hqt]; omega)
          have hQq : Q < q := by rw [hQ]; exact (Nat.div_lt_iff_lt_mul hBp).2 hlt
          obtain ⟨p, rfl⟩ : ∃ p, q = p + 1 := ⟨q - 1, by omega⟩
          have x3 : IntKind.u64.wrap (((p + 1 : Nat) : Int) - 1) = ((p : Nat) : Int) := by rw [wrap_u64] <;> omega
          have x4 : IntKind.u64.wrap (((r : Nat) : Int) + ((e1 : Nat) : Int)) = ((r + e1 : Nat) : Int) := by rw [wrap_u64] <;> omega
          have gb1' := fun nx => (getCells_ne (h := ⟨h.m, nx⟩) (h' := ⟨h'.m, nx⟩) (bb := bb) (bo := bo + (n - 1) * 1) (n := 1) (by rw [i5])).trans (gb1 nx)
          refine Ex.block ?_
          (repeat refine Ex.assoc ?_); refine Ex.step (m := 0) (by simp (config := {decide := true}) only [RS, Nat.reduceAdd, g7, x3]; rfl) ?_
          refine Ex.last (m := 0) (by simp (config := {decide := true}) only [RS, Nat.reduceAdd, g1, g5, g8, tSl, tU32, tU64, hU32, sU32, aU32, c3, Int.toNat_natCast, w1, gb1', v3, x4]; rfl) ?_
          simp (config := {decide := true}) only [thenK, blockK, ite_true, ite_false, if_true, if_false]
          refine ⟨p, Nat.lt_succ_self p, r + e1, by omega, by omega, ?_, by omega, by simp (config := {decide := true}) only [RS, Nat.reduceAdd, g0], by simp (config := {decide := true}) only [RS, Nat.reduceAdd, g1], by simp (config := {decide := true}) only [RS, Nat.reduceAdd, g5], by simp (config := {decide := true}) only [RS, Nat.reduceAdd], by simp (config := {decide := true}) only [RS, Nat.reduceAdd], i5, (by first | omega | (simp only [Nat.add_assoc]; omega) | (dsimp only; omega))⟩
          rw [i3, Nat.succ_mul]; omega
        · have hc' : ¬ ((q * e2 : Nat) : Int) > ((4294967296 * r + d2 : Nat) : Int) := by omega
          refine Ex.ifF (by simp (config := {decide := true}) only [RS, Nat.reduceAdd, g71, hc']) (Ex.exitS ?_)
          simp (config := {decide := true}) only [thenK, blockK, ite_true, ite_false, if_true, if_false]
          exact ⟨q, i1, i2, hexit (by rw [hqt]; omega), g0, g1, g5, g7, i5, (by first | omega | (simp only [Nat.add_assoc]; omega) | (dsimp only; omega))⟩
      · have hr' : ¬ ((r : Nat) : Int) ≤ 4294967295 := by omega
        (repeat refine Ex.assoc ?_); refine Ex.step (m := 0) (by rw [drawR (B := [0, 1, 3, 7, 7, 7, 39, 119, 247, 503, 1023, 7, 2055, 7, 7, 16391, 57351, 122887, 253959, 522247, 1048575, 2097151]) (ord := [0, 1, 2, 3, 4, 5, 6, 7, 8, 9, 10, 11, 12, 13, 14, 15, 16, 17, 18, 19, 20, 21]) (by kernel_rfl) (by kernel_rfl) (by kernel_rfl)]; simp (config := {decide := true}) only [RS, Nat.reduceAdd, drawOps, drawStep, readOk, readsA, segsOk, blkOk, Bool.true_or, Bool.or_true, AV.beqL_refl, g0, g1, g5, g7, g8, hr']; rfl) ?_
        refine Ex.forget fun E hE => ?_; have k0 := hE 0; simp (config := {decide := true}) only [RS, Nat.reduceAdd, g0, g1, g5, g7, g8] at k0; have k1 := hE 1; simp (config := {decide := true}) only [RS, Nat.reduceAdd, g0, g1, g5, g7, g8] at k1; have k5 := hE 5; simp (config := {decide := true}) only [RS, Nat.reduceAdd, g0, g1, g5, g7, g8] at k5; have k7 := hE 7; simp (config := {decide := true}) only [RS, Nat.reduceAdd, g0, g1, g5, g7, g8] at k7; have k71 := hE 71; simp (config := {decide := true}) only [RS, Nat.reduceAdd, g0, g1, g5, g7, g8] at k71; clear hE g0 g1 g5 g7 g8; have g0 := k0; clear k0; have g1 := k1; clear k1; have g5 := k5; clear k5; have g7 := k7; clear k7; have g71 := k71; clear k71
        refine Ex.ifF (by simp (config := {decide := true}) only [RS, Nat.reduceAdd, g71]) (Ex.exitS ?_)
        simp (config := {decide := true}) only [thenK, blockK, ite_true, ite_false, if_true, if_false]
        refine ⟨q, i1, i2, hexit ?_, g0, g1, g5, g7, i5, (by first | omega | (simp only [Nat.add_assoc]; omega) | (dsimp only; omega))⟩
        have h1 : q * e2 ≤ 4294967295 * 4294967295 := Nat.mul_le_mul (by omega) (by omega)
        rw [hqt]; omega
    · exact ⟨r0, hq2, hq3, hr0, by omega, g0, g1, g5, g7, g8, rfl, (by first | omega | (simp only [Nat.add_assoc]; omega) | (dsimp only; omega))⟩
  rintro env h' ⟨q, i1, i2, i3, g0, g1, g5, g7, i5, i6⟩
  (repeat refine Ex.assoc ?_); refine Ex.step (m := 0) (by simp (config := {decide := true}) only [RS, Nat.reduceAdd]; rfl) ?_
  (repeat refine Ex.assoc ?_); refine Ex.step (m := 0) (by simp (config := {decide := true}) only [RS, Nat.reduceAdd, g1, tSl, aLen]; rfl) ?_
  refine Ex.forget fun E hE => ?_; have k0 := hE 0; simp (config := {decide := true}) only [RS, Nat.reduceAdd, g0, g1, g5, g7] at k0; have k1 := hE 1; simp (config := {decide := true}) only [RS, Nat.reduceAdd, g0, g1, g5, g7] at k1; have k5 := hE 5; simp (config := {decide := true}) only [RS, Nat.reduceAdd, g0, g1, g5, g7] at k5; have k7 := hE 7; simp (config := {decide := true}) only [RS, Nat.reduceAdd, g0, g1, g5, g7] at k7; have k9 := hE 9; simp (config := {decide := true}) only [RS, Nat.reduceAdd, g0, g1, g5, g7] at k9; have k10 := hE 10; simp (config := {decide := true}) only [RS, Nat.reduceAdd, g0, g1, g5, g7] at k10; have k82 := hE 82; simp (config := {decide := true}) only [RS, Nat.reduceAdd, g0, g1, g5, g7] at k82; have k83 := hE 83; simp (config := {decide := true}) only [RS, Nat.reduceAdd, g0, g1, g5, g7] at k83; have k84 := hE 84; simp (config := {decide := true}) only [RS, Nat.reduceAdd, g0, g1, g5, g7] at k84; clear hE g0 g1 g5 g7; have g0 := k0; clear k0; have g1 := k1; clear k1; have g5 := k5; clear k5; have g7 := k7; clear k7; have g9 := k9; clear k9; have g10 := k10; clear k10; have g82 := k82; clear k82; have g83 := k83; clear k83; have g84 := k84; clear k84
  -- so many times taken off
  refine Ex.cut (fun env h' => ∃ (c : Nat) (s : Int) (w' : List Nat), c < 4294967296 ∧ (s = 0 ∨ s = -1) ∧ w'.length = n + 1 ∧ small w' ∧ dig w' n = d0 ∧ (digVal (w'.take n) : Int) = digVal (w.take n) - q * digVal db - (4294967296 ^ n : Nat) * (s - c) ∧
    env.get 0 = some (.slice ab pre.length (n + 1) ac ae 1) ∧ env.get 1 = some (.slice bb bo n bc be 1) ∧ env.get 5 = some (.int .i64 n) ∧ env.get 7 = some (.int .u64 q) ∧ env.get 9 = some (.int .u64 c) ∧ env.get 10 = some (.int .i64 s) ∧
    h.nx ≤ h'.nx ∧ ∀ b, h'.m.get b = if b = ab then some (.row (u32s (pre ++ w' ++ suf)) false) else h.m.get b) (Ex.block ?_) ?_
  · refine Ex.loop (fun k env h' => ∃ (i c : Nat) (s : Int) (w' : List Nat), k = n - i ∧ i ≤ n ∧ c < 4294967296 ∧ (s = 0 ∨ s = -1) ∧ w'.length = n + 1 ∧ small w' ∧ (∀ j, i ≤ j → dig w' j = dig w j) ∧
      (digVal (w'.take i) : Int) = digVal (w.take i) - q * digVal (db.take i) - (4294967296 ^ i : Nat) * (s - c) ∧
      env.get 0 = some (.slice ab pre.length (n + 1) ac ae 1) ∧ env.get 1 = some (.slice bb bo n bc be 1) ∧ env.get 5 = some (.int .i64 n) ∧ env.get 7 = some (.int .u64 q) ∧ env.get 9 = some (.int .u64 c) ∧ env.get 10 = some (.int .i64 s) ∧
      env.get 82 = some (.slice bb bo n bc be 1) ∧ env.get 83 = some (.int .i64 n) ∧ env.get 84 = some (.int .i64 i) ∧
      h.nx ≤ h'.nx ∧ ∀ b, h'.m.get b = if b = ab then some (.row (u32s (pre ++ w' ++ suf)) false) else h.m.get b) ?_ n _ _ ?_
    · rintro k env h' ⟨i, c, s, w', rfl, j1, j2, j3, j4, j5, j6, j7, g0, g1, g5, g7, g9, g10, g82, g83, g84, j8, j9⟩
      (repeat refine Ex.assoc ?_); refine Ex.step (m := 0) (by simp (config := {decide := true}) only [RS, Nat.reduceAdd, g83, g84]; rfl) ?_
      refine Ex.forget fun E hE => ?_; have k0 := hE 0; simp (config := {decide := true}) only [RS, Nat.reduceAdd, g0, g1, g5, g7, g9, g10, g82, g83, g84] at k0; have k1 := hE 1; simp (config := {decide := true}) only [RS, Nat.reduceAdd, g0, g1, g5, g7, g9, g10, g82, g83, g84] at k1; have k5 := hE 5; simp (config := {decide := true}) only [RS, Nat.reduceAdd, g0, g1, g5, g7, g9, g10, g82, g83, g84] at k5; have k7 := hE 7; simp (config := {decide := true}) only [RS, Nat.reduceAdd, g0, g1, g5, g7, g9, g10, g82, g83, g84] at k7; have k9 := hE 9; simp (config := {decide := true}) only [RS, Nat.reduceAdd, g0, g1, g5, g7, g9, g10, g82, g83, g84] at k9; have k10 := hE 10; simp (config := {decide := true}) only [RS, Nat.reduceAdd, g0, g1, g5, g7, g9, g10, g82, g83, g84] at k10; have k82 := hE 82; simp (config := {decide := true}) only [RS, Nat.reduceAdd, g0, g1, g5, g7, g9, g10, g82, g83, g84] at k82; have k83 := hE 83; simp (config := {decide := true}) only [RS, Nat.reduceAdd, g0, g1, g5, g7, g9, g10, g82, g83, g84] at k83; have k84 := hE 84; simp (config := {decide := true}) only [RS, Nat.reduceAdd, g0, g1, g5, g7, g9, g10, g82, g83, g84] at k84; have k85 := hE 85; simp (config := {decide := true}) only [RS, Nat.reduceAdd, g0, g1, g5, g7, g9, g10, g82, g83, g84] at k85; clear hE g0 g1 g5 g7 g9 g10 g82 g83 g84; have g0 := k0; clear k0; have g1 := k1; clear k1; have g5 := k5; clear k5; have g7 := k7; clear k7; have g9 := k9; clear k9; have g10 := k10; clear k10; have g82 := k82; clear k82; have g83 := k83; clear k83; have g84 := k84; clear k84; have g85 := k85; clear k85
      by_cases hi : i < n
      · have hi1 : ((i : Nat) : Int) < (n : Int) := by omega
        refine Ex.ifT (by simp (config := {decide := true}) only [RS, Nat.reduceAdd, g85, hi1]) (Ex.skipS ?_)
        refine Ex.seq (Ex.block ?_)
        have ha' : h'.m.get ab = some (.row (u32s (pre ++ w' ++ suf)) false) := by rw [j9, if_pos rfl]
        have gb := fun nx => (getCells_ne (h := ⟨h.m, nx⟩) (h' := ⟨h'.m, nx⟩) (bb := bb) (bo := bo + i * 1) (n := 1) (by simp only [j9, if_neg (Ne.symm hne)])).trans (slice_get hb (i := i) (by omega) nx)
        have ga := fun nx => win_get ha' (i := i) (by omega) nx
        rw [j6 i (Nat.le_refl _)] at ga
        have ly := dig_lt sb i
        have la := dig_lt sw i
        have e3 : (0 ≤ ((i : Nat) : Int) ∧ ((i : Nat) : Int) < ((n : Nat) : Int)) := by omega
        have e4 : (0 ≤ ((i : Nat) : Int) ∧ ((i : Nat) : Int) < ((n + 1 : Nat) : Int)) := by omega
        have hD := digVal_take_succ db i
        have hWt := digVal_take_succ w i
        obtain ⟨y, hy⟩ : ∃ y, y = dig db i := ⟨_, rfl⟩
        obtain ⟨a, hay⟩ : ∃ a, a = dig w i := ⟨_, rfl⟩
        rw [← hy] at gb ly hD
        rw [← hay] at ga la hWt
        (repeat refine Ex.assoc ?_); refine Ex.step (m := 0) (by simp (config := {decide := true}) only [RS, Nat.reduceAdd, g82, g84, tSl, tU32, hU32, sU32, aU32, e3, Int.toNat_natCast, gb]; rfl) ?_
        refine Ex.forget fun E hE => ?_; have k0 := hE 0; simp (config := {decide := true}) only [RS, Nat.reduceAdd, g0, g1, g5, g7, g9, g10, g82, g83, g84, g85] at k0; have k1 := hE 1; simp (config := {decide := true}) only [RS, Nat.reduceAdd, g0, g1, g5, g7, g9, g10, g82, g83, g84, g85] at k1; have k5 := hE 5; simp (config := {decide := true}) only [RS, Nat.reduceAdd, g0, g1, g5, g7, g9, g10, g82, g83, g84, g85] at k5; have k7 := hE 7; simp (config := {decide := true}) only [RS, Nat.reduceAdd, g0, g1, g5, g7, g9, g10, g82, g83, g84, g85] at k7; have k9 := hE 9; simp (config := {decide := true}) only [RS, Nat.reduceAdd, g0, g1, g5, g7, g9, g10, g82, g83, g84, g85] at k9; have k10 := hE 10; simp (config := {decide := true}) only [RS, Nat.reduceAdd, g0, g1, g5, g7, g9, g10, g82, g83, g84, g85] at k10; have k11 := hE 11; simp (config := {decide := true}) only [RS, Nat.reduceAdd, g0, g1, g5, g7, g9, g10, g82, g83, g84, g85] at k11; have k12 := hE 12; simp (config := {decide := true}) only [RS, Nat.reduceAdd, g0, g1, g5, g7, g9, g10, g82, g83, g84, g85] at k12; have k82 := hE 82; simp (config := {decide := true}) only [RS, Nat.reduceAdd, g0, g1, g5, g7, g9, g10, g82, g83, g84, g85] at k82; have k83 := hE 83; simp (config := {decide := true}) only [RS, Nat.reduceAdd, g0, g1, g5, g7, g9, g10, g82, g83, g84, g85] at k83; have k84 := hE 84; simp (config := {decide := true}) only [RS, Nat.reduceAdd, g0, g1, g5, g7, g9, g10, g82, g83, g84, g85] at k84; clear hE g0 g1 g5 g7 g9 g10 g82 g83 g84 g85; have g0 := k0; clear k0; have g1 := k1; clear k1; have g5 := k5; clear k5; have g7 := k7; clear k7; have g9 := k9; clear k9; have g10 := k10; clear k10; have g11 := k11; clear k11; have g12 := k12; clear k12; have g82 := k82; clear k82; have g83 := k83; clear k83; have g84 := k84; clear k84
        have hqy : q * y ≤ 4294967295 * 4294967295 := Nat.mul_le_mul (by omega) (by omega)
        obtain ⟨t, ht⟩ : ∃ t, t = c + q * y := ⟨_, rfl⟩
        have y1 : IntKind.u64.wrap ((y : Nat) : Int) = (y : Nat) := by rw [wrap_u64] <;> omega
        have y2 : IntKind.u64.wrap (((q : Nat) : Int) * ((y : Nat) : Int)) = ((q * y : Nat) : Int) := by
          rw [← Int.natCast_mul]; generalize q * y = z at *; rw [wrap_u64] <;> omega
        have y3 : IntKind.u64.wrap (((c : Nat) : Int) + ((q * y : Nat) : Int)) = ((t : Nat) : Int) := by
          rw [ht]; generalize q * y = z at *; rw [wrap_u64] <;> omega
        (repeat refine Ex.assoc ?_); refine Ex.step (m := 0) (by simp (config := {decide := true}) only [RS, Nat.reduceAdd, g7, g9, g12, tU32, tU64, y1, y2, y3]; rfl) ?_
        refine Ex.forget fun E hE => ?_; have k0 := hE 0; simp (config := {decide := true}) only [RS, Nat.reduceAdd, g0, g1, g5, g7, g9, g10, g11, g12, g82, g83, g84] at k0; have k1 := hE 1; simp (config := {decide := true}) only [RS, Nat.reduceAdd, g0, g1, g5, g7, g9, g10, g11, g12, g82, g83, g84] at k1; have k5 := hE 5; simp (config := {decide := true}) only [RS, Nat.reduceAdd, g0, g1, g5, g7, g9, g10, g11, g12, g82, g83, g84] at k5; have k7 := hE 7; simp (config := {decide := true}) only [RS, Nat.reduceAdd, g0, g1, g5, g7, g9, g10, g11, g12, g82, g83, g84] at k7; have k9 := hE 9; simp (config := {decide := true}) only [RS, Nat.reduceAdd, g0, g1, g5, g7, g9, g10, g11, g12, g82, g83, g84] at k9; have k10 := hE 10; simp (config := {decide := true}) only [RS, Nat.reduceAdd, g0, g1, g5, g7, g9, g10, g11, g12, g82, g83, g84] at k10; have k11 := hE 11; simp (config := {decide := true}) only [RS, Nat.reduceAdd, g0, g1, g5, g7, g9, g10, g11, g12, g82, g83, g84] at k11; have k82 := hE 82; simp (config := {decide := true}) only [RS, Nat.reduceAdd, g0, g1, g5, g7, g9, g10, g11, g12, g82, g83, g84] at k82; have k83 := hE 83; simp (config := {decide := true}) only [RS, Nat.reduceAdd, g0, g1, g5, g7, g9, g10, g11, g12, g82, g83, g84] at k83; have k84 := hE 84; simp (config := {decide := true}) only [RS, Nat.reduceAdd, g0, g1, g5, g7, g9, g10, g11, g12, g82, g83, g84] at k84; clear hE g0 g1 g5 g7 g9 g10 g11 g12 g82 g83 g84; have g0 := k0; clear k0; have g1 := k1; clear k1; have g5 := k5; clear k5; have g7 := k7; clear k7; have g9 := k9; clear k9; have g10 := k10; clear k10; have g11 := k11; clear k11; have g82 := k82; clear k82; have g83 := k83; clear k83; have g84 := k84; clear k84
        obtain ⟨c', hc'⟩ : ∃ c', c' = t / 4294967296 := ⟨_, rfl⟩
        obtain ⟨lo, hlo⟩ : ∃ lo, lo = t % 4294967296 := ⟨_, rfl⟩
        have hc2 : c' < 4294967296 := by omega
        obtain ⟨x, s', z1, z2, z3, z4, z5, z6⟩ := sub_digit (a := a) (lo := lo) j3 la (by omega)
        have y4 : IntKind.u32.wrap ((t : Nat) : Int) = (lo : Nat) := by rw [wrap_u32, hlo]; omega
        have y5 : IntKind.i64.wrap ((lo : Nat) : Int) = (lo : Nat) := by rw [wrap_i64] <;> omega
        have y6 : IntKind.i64.wrap ((a : Nat) : Int) = (a : Nat) := by rw [wrap_i64] <;> omega
        have y7 : IntKind.i64.wrap (((a : Nat) : Int) - ((lo : Nat) : Int)) = ((a : Nat) : Int) - ((lo : Nat) : Int) := by rw [wrap_i64] <;> omega
        have y8 : IntKind.i64.wrap (s + (((a : Nat) : Int) - ((lo : Nat) : Int))) = s + (((a : Nat) : Int) - ((lo : Nat) : Int)) := by rw [wrap_i64] <;> omega
        (repeat refine Ex.assoc ?_); refine Ex.step (m := 0) (by simp (config := {decide := true}) only [RS, Nat.reduceAdd, g0, g9, g10, g11, tSl, tInt, tI64, tU32, tU64, hU32, sU32, aU32, e4, Int.toNat_natCast, ga, y4, y5, y6, y7, y8]; rfl) ?_
        refine Ex.forget fun E hE => ?_; have k0 := hE 0; simp (config := {decide := true}) only [RS, Nat.reduceAdd, g0, g1, g5, g7, g9, g10, g11, g82, g83, g84] at k0; have k1 := hE 1; simp (config := {decide := true}) only [RS, Nat.reduceAdd, g0, g1, g5, g7, g9, g10, g11, g82, g83, g84] at k1; have k5 := hE 5; simp (config := {decide := true}) only [RS, Nat.reduceAdd, g0, g1, g5, g7, g9, g10, g11, g82, g83, g84] at k5; have k7 := hE 7; simp (config := {decide := true}) only [RS, Nat.reduceAdd, g0, g1, g5, g7, g9, g10, g11, g82, g83, g84] at k7; have k9 := hE 9; simp (config := {decide := true}) only [RS, Nat.reduceAdd, g0, g1, g5, g7, g9, g10, g11, g82, g83, g84] at k9; have k10 := hE 10; simp (config := {decide := true}) only [RS, Nat.reduceAdd, g0, g1, g5, g7, g9, g10, g11, g82, g83, g84] at k10; have k11 := hE 11; simp (config := {decide := true}) only [RS, Nat.reduceAdd, g0, g1, g5, g7, g9, g10, g11, g82, g83, g84] at k11; have k82 := hE 82; simp (config := {decide := true}) only [RS, Nat.reduceAdd, g0, g1, g5, g7, g9, g10, g11, g82, g83, g84] at k82; have k83 := hE 83; simp (config := {decide := true}) only [RS, Nat.reduceAdd, g0, g1, g5, g7, g9, g10, g11, g82, g83, g84] at k83; have k84 := hE 84; simp (config := {decide := true}) only [RS, Nat.reduceAdd, g0, g1, g5, g7, g9, g10, g11, g82, g83, g84] at k84; clear hE g0 g1 g5 g7 g9 g10 g11 g82 g83 g84; have g0 := k0; clear k0; have g1 := k1; clear k1; have g5 := k5; clear k5; have g7 := k7; clear k7; have g9 := k9; clear k9; have g10 := k10; clear k10; have g11 := k11; clear k11; have g82 := k82; clear k82; have g83 := k83; clear k83; have g84 := k84; clear k84
        have hp := fun nx => win_put ha' (i := i) (x := x) (by omega) nx
        (repeat refine Ex.assoc ?_); refine Ex.step (m := 0) (by simp (config := {decide := true}) only [RS, Nat.reduceAdd, g0, g10, g11, tSl, tI64, tU32, tU64, hU32, sU32, e4, Int.toNat_natCast, z4, hp]; rfl) ?_
        refine Ex.forget fun E hE => ?_; have k0 := hE 0; simp (config := {decide := true}) only [RS, Nat.reduceAdd, g0, g1, g5, g7, g9, g10, g11, g82, g83, g84] at k0; have k1 := hE 1; simp (config := {decide := true}) only [RS, Nat.reduceAdd, g0, g1, g5, g7, g9, g10, g11, g82, g83, g84] at k1; have k5 := hE 5; simp (config := {decide := true}) only [RS, Nat.reduceAdd, g0, g1, g5, g7, g9, g10, g11, g82, g83, g84] at k5; have k7 := hE 7; simp (config := {decide := true}) only [RS, Nat.reduceAdd, g0, g1, g5, g7, g9, g10, g11, g82, g83, g84] at k7; have k9 := hE 9; simp (config := {decide := true}) only [RS, Nat.reduceAdd, g0, g1, g5, g7, g9, g10, g11, g82, g83, g84] at k9; have k10 := hE 10; simp (config := {decide := true}) only [RS, Nat.reduceAdd, g0, g1, g5, g7, g9, g10, g11, g82, g83, g84] at k10; have k82 := hE 82; simp (config := {decide := true}) only [RS, Nat.reduceAdd, g0, g1, g5, g7, g9, g10, g11, g82, g83, g84] at k82; have k83 := hE 83; simp (config := {decide := true}) only [RS, Nat.reduceAdd, g0, g1, g5, g7, g9, g10, g11, g82, g83, g84] at k83; have k84 := hE 84; simp (config := {decide := true}) only [RS, Nat.reduceAdd, g0, g1, g5, g7, g9, g10, g11, g82, g83, g84] at k84; clear hE g0 g1 g5 g7 g9 g10 g11 g82 g83 g84; have g0 := k0; clear k0; have g1 := k1; clear k1; have g5 := k5; clear k5; have g7 := k7; clear k7; have g9 := k9; clear k9; have g10 := k10; clear k10; have g82 := k82; clear k82; have g83 := k83; clear k83; have g84 := k84; clear k84
        have y9 : ((t : Nat) : Int).fdiv (2 ^ (min (Int.toNat 32) (IntKind.bits .u64))) = ((c' : Nat) : Int) := by
          rw [show (2 ^ (min (Int.toNat 32) (IntKind.bits .u64)) : Int) = ((4294967296 : Nat) : Int) by decide, Int.fdiv_eq_ediv_of_nonneg _ (by omega), hc']; rfl
        refine Ex.last (m := 0) (by simp (config := {decide := true}) only [RS, Nat.reduceAdd, g9, g10, y9, z5]; rfl) ?_
        simp (config := {decide := true}) only [thenK, blockK, ite_true, ite_false, if_true, if_false]
        have y0 : IntKind.i64.wrap (((i : Nat) : Int) + 1) = ((i + 1 : Nat) : Int) := by rw [wrap_i64] <;> omega
        refine Ex.last (m := 0) (by simp (config := {decide := true}) only [RS, Nat.reduceAdd, g84, y0]; rfl) ?_
        simp (config := {decide := true}) only [thenK, blockK, ite_true, ite_false, if_true, if_false]
        refine ⟨n - (i + 1), by omega, i + 1, c', s', w'.set i x, rfl, by omega, hc2, z1, by simpa using j4, small_set j5 z2 i, fun j hj => ?_, ?_, by simp (config := {decide := true}) only [RS, Nat.reduceAdd, g0], by simp (config := {decide := true}) only [RS, Nat.reduceAdd, g1], by simp (config := {decide := true}) only [RS, Nat.reduceAdd, g5], by simp (config := {decide := true}) only [RS, Nat.reduceAdd, g7], by simp (config := {decide := true}) only [RS, Nat.reduceAdd], by simp (config := {decide := true}) only [RS, Nat.reduceAdd], by simp (config := {decide := true}) only [RS, Nat.reduceAdd, g82], by simp (config := {decide := true}) only [RS, Nat.reduceAdd, g83], by simp (config := {decide := true}) only [RS, Nat.reduceAdd], (by first | omega | (simp only [Nat.add_assoc]; omega) | (dsimp only; omega)), fun b => ?_⟩
        · rw [dig_set (by omega)]; exact j6 j (by omega)
        · rw [digVal_set_take (by omega), hWt, hD, Nat.pow_succ]
          simp only [Int.natCast_add, Int.natCast_mul]
          have hl : (c : Int) + q * y = lo + 4294967296 * c' := by
            have : c + q * y = lo + 4294967296 * c' := by omega
            rw [← Int.natCast_mul, ← Int.natCast_add, this]; simp
          exact sub_sum j7 z3 hl
        · simp only [PT.get_set, j9]
          split <;> rfl
      · have hi1 : ¬ ((i : Nat) : Int) < (n : Int) := by omega
        refine Ex.ifF (by simp (config := {decide := true}) only [RS, Nat.reduceAdd, g85, hi1]) (Ex.exitS ?_)
        simp (config := {decide := true}) only [thenK, blockK, ite_true, ite_false, if_true, if_false]
        have hiN : i = n := by omega
        subst hiN
        rw [hdt] at j7
        exact ⟨c, s, w', j2, j3, j4, j5, (j6 i (Nat.le_refl _)).trans hd0.symm, j7, g0, g1, g5, g7, g9, g10, (by first | omega | (simp only [Nat.add_assoc]; omega) | (dsimp only; omega)), j9⟩
    · refine ⟨0, 0, 0, w, by omega, by omega, by omega, .inl rfl, hl, sw, fun _ _ => rfl, by simp [digVal], g0, g1, g5, g7, g9, g10, g82, g83, by rw [g84]; rfl, (by first | omega | (simp only [Nat.add_assoc]; omega) | (dsimp only; omega)), fun b => ?_⟩
      rw [i5]
      split
      · rename_i e; rw [e]; exact ha
      · rfl
  clear g0 g1 g5 g7 g9 g10 g82 g83 g84
  rintro env h' ⟨c, s, w', j2, j3, j4, j5, j6, j7, g0, g1, g5, g7, g9, g10, j8, j9⟩
  have ha' : h'.m.get ab = some (.row (u32s (pre ++ w' ++ suf)) false) := by rw [j9, if_pos rfl]
  have ga := fun nx => win_get ha' (i := n) (by omega) nx
  rw [j6] at ga
  obtain ⟨x, s', z1, z2, z3, z4, z5, z6⟩ := sub_digit (a := d0) (lo := c) j3 a0 j2
  have y5 : IntKind.i64.wrap ((c : Nat) : Int) = (c : Nat) := by rw [wrap_i64] <;> omega
  have y6 : IntKind.i64.wrap ((d0 : Nat) : Int) = (d0 : Nat) := by rw [wrap_i64] <;> omega
  have y7 : IntKind.i64.wrap (((d0 : Nat) : Int) - ((c : Nat) : Int)) = ((d0 : Nat) : Int) - ((c : Nat) : Int) := by rw [wrap_i64] <;> omega
  have y8 : IntKind.i64.wrap (s + (((d0 : Nat) : Int) - ((c : Nat) : Int))) = s + (((d0 : Nat) : Int) - ((c : Nat) : Int)) := by rw [wrap_i64] <;> omega
  (repeat refine Ex.assoc ?_); refine Ex.step (m := 0) (by simp (config := {decide := true}) only [RS, Nat.reduceAdd, g0, g5, g9, g10, tSl, tI64, tU32, tU64, hU32, sU32, aU32, c0, Int.toNat_natCast, ga, y5, y6, y7, y8]; rfl) ?_
  refine Ex.forget fun E hE => ?_; have k0 := hE 0; simp (config := {decide := true}) only [RS, Nat.reduceAdd, g0, g1, g5, g7, g9, g10] at k0; have k1 := hE 1; simp (config := {decide := true}) only [RS, Nat.reduceAdd, g0, g1, g5, g7, g9, g10] at k1; have k5 := hE 5; simp (config := {decide := true}) only [RS, Nat.reduceAdd, g0, g1, g5, g7, g9, g10] at k5; have k7 := hE 7; simp (config := {decide := true}) only [RS, Nat.reduceAdd, g0, g1, g5, g7, g9, g10] at k7; have k10 := hE 10; simp (config := {decide := true}) only [RS, Nat.reduceAdd, g0, g1, g5, g7, g9, g10] at k10; clear hE g0 g1 g5 g7 g9 g10; have g0 := k0; clear k0; have g1 := k1; clear k1; have g5 := k5; clear k5; have g7 := k7; clear k7; have g10 := k10; clear k10
  have hp := fun nx => win_put ha' (i := n) (x := x) (by omega) nx
  (repeat refine Ex.assoc ?_); refine Ex.step (m := 0) (by simp (config := {decide := true}) only [RS, Nat.reduceAdd, g0, g5, g10, tSl, tI64, tU32, hU32, sU32, c0, Int.toNat_natCast, z4, hp]; rfl) ?_
  refine Ex.forget fun E hE => ?_; have k0 := hE 0; simp (config := {decide := true}) only [RS, Nat.reduceAdd, g0, g1, g5, g7, g10] at k0; have k1 := hE 1; simp (config := {decide := true}) only [RS, Nat.reduceAdd, g0, g1, g5, g7, g10] at k1; have k5 := hE 5; simp (config := {decide := true}) only [RS, Nat.reduceAdd, g0, g1, g5, g7, g10] at k5; have k7 := hE 7; simp (config := {decide := true}) only [RS, Nat.reduceAdd, g0, g1, g5, g7, g10] at k7; have k10 := hE 10; simp (config := {decide := true}) only [RS, Nat.reduceAdd, g0, g1, g5, g7, g10] at k10; clear hE g0 g1 g5 g7 g10; have g0 := k0; clear k0; have g1 := k1; clear k1; have g5 := k5; clear k5; have g7 := k7; clear k7; have g10 := k10; clear k10
  (repeat refine Ex.assoc ?_); refine Ex.step (m := 0) (by simp (config := {decide := true}) only [RS, Nat.reduceAdd, g10]; rfl) ?_
  refine Ex.forget fun E hE => ?_; have k0 := hE 0; simp (config := {decide := true}) only [RS, Nat.reduceAdd, g0, g1, g5, g7, g10] at k0; have k1 := hE 1; simp (config := {decide := true}) only [RS, Nat.reduceAdd, g0, g1, g5, g7, g10] at k1; have k5 := hE 5; simp (config := {decide := true}) only [RS, Nat.reduceAdd, g0, g1, g5, g7, g10] at k5; have k7 := hE 7; simp (config := {decide := true}) only [RS, Nat.reduceAdd, g0, g1, g5, g7, g10] at k7; have k132 := hE 132; simp (config := {decide := true}) only [RS, Nat.reduceAdd, g0, g1, g5, g7, g10] at k132; clear hE g0 g1 g5 g7 g10; have g0 := k0; clear k0; have g1 := k1; clear k1; have g5 := k5; clear k5; have g7 := k7; clear k7; have g132 := k132; clear k132
  obtain ⟨rest, hrest⟩ : ∃ r : Int, r = s + (((d0 : Nat) : Int) - ((c : Nat) : Int)) := ⟨_, rfl⟩
  rw [← hrest] at z3 z6 g132
  have hWn := digVal_take_succ w n
  rw [hwt, ← hd0] at hWn
  obtain ⟨P, hP⟩ : ∃ P, P = 4294967296 ^ n := ⟨_, rfl⟩
  rw [← hP] at hWn j7
  have hAq : (digVal w : Int) - q * digVal db = digVal (w'.take n) + P * rest := by
    rw [hWn, Int.natCast_add, Int.natCast_mul, hrest]
    rw [j7]; grind
  have hPpos : 0 < P := by rw [hP]; exact Nat.pow_pos (by omega)
  have hlw := digVal_take_lt j5 n
  rw [← hP] at hlw
  have hqdm := Nat.div_add_mod (digVal w) (digVal db)
  rw [← hQ] at hqdm
  have hmod := Nat.mod_lt (digVal w) hBp
  have hDP : digVal db < P := by
    have := digVal_lt sb
    rw [hnb, ← hP] at this; exact this
  have hlt3 : dig w' n = d0 := j6
  have hw3l : (w'.set n x).length = n + 1 := by simpa using j4
  have hw3t : (w'.set n x).take n = w'.take n := by rw [List.take_set_of_le (Nat.le_refl n)]
  have hw3n : dig (w'.set n x) n = x := dig_set_same (by omega)
  have hw3v : digVal (w'.set n x) = digVal (w'.take n) + P * x := by
    have := digVal_set_take (w := w') (i := n) (x := x) (by omega)
    rw [List.take_of_length_le (by omega), ← hP] at this
    exact this
  have sw3 : small (w'.set n x) := small_set j5 z2 n
  obtain ⟨w3, hw3⟩ : ∃ w3, w3 = w'.set n x := ⟨_, rfl⟩
  rw [← hw3] at hw3l hw3t hw3n hw3v sw3
  have hm3 : ∀ b, (h'.m.set ab (.row (u32s (pre ++ w'.set n x ++ suf)) false)).get b = if b = ab then some (.row (u32s (pre ++ w3 ++ suf)) false) else h.m.get b := fun b => by
    rw [PT.get_set, j9, hw3]
    split <;> rfl
  obtain ⟨m3, hm3'⟩ : ∃ m3, m3 = h'.m.set ab (.row (u32s (pre ++ w'.set n x ++ suf)) false) := ⟨_, rfl⟩
  rw [← hm3'] at hm3 ⊢
  by_cases hr : rest ≥ 0
  · refine Ex.ifT (by simp (config := {decide := true}) only [RS, Nat.reduceAdd, g132, hr]) ?_
    have y4 : IntKind.u32.wrap ((q : Nat) : Int) = (q : Nat) := by rw [wrap_u32]; omega
    (repeat refine Ex.assoc ?_); refine Ex.step (m := 0) (by simp (config := {decide := true}) only [RS, Nat.reduceAdd, g7, tU32, tU64, y4]; rfl) ?_
    refine Ex.retS ⟨trivial, _, by simp (config := {decide := true}) only [RS, Nat.reduceAdd]; rfl, ?_⟩
    simp (config := {decide := true}) only [RS, Nat.reduceAdd]
    have hge : q * digVal db ≤ digVal w := by
      have : 0 ≤ (P : Int) * rest := Int.mul_nonneg (by omega) hr
      rw [← Int.natCast_mul] at hAq
      omega
    have hqQ : q = Q := by
      have : q ≤ Q := by rw [hQ]; exact (Nat.le_div_iff_mul_le hBp).2 hge
      omega
    have hr0 : rest = 0 := by
      have h1 : (digVal w : Int) - q * digVal db < P := by
        rw [hqQ, Nat.mul_comm] at *
        rw [← Int.natCast_mul]
        omega
      rcases Int.lt_or_le 0 rest with h2 | h2
      · exfalso
        have h3 : (P : Int) * 1 ≤ P * rest := Int.mul_le_mul_of_nonneg_left (by omega) (by omega)
        omega
      · omega
    have hx0 : x = 0 := by omega
    refine ⟨q, w3, rfl, hqQ.trans hQ, hw3l, sw3, (by first | omega | (simp only [Nat.add_assoc]; omega) | (dsimp only; omega)), hm3, ?_⟩
    rw [hw3v, hx0]
    rw [hr0, hqQ] at hAq
    have : digVal w = Q * digVal db + digVal (w'.take n) := by
      rw [← Int.natCast_mul] at hAq
      omega
    rw [Nat.mul_comm] at this
    omega
  · refine Ex.ifF (by simp (config := {decide := true}) only [RS, Nat.reduceAdd, g132, hr]) (Ex.skipS ?_)
    have hlt : digVal w < q * digVal db := by
      rcases Nat.lt_or_ge (digVal w) (q * digVal db) with h1 | h1
      · exact h1
      · exfalso
        have h3 : (P : Int) * rest ≤ P * (-1) := Int.mul_le_mul_of_nonneg_left (by omega) (by omega)
        rw [← Int.natCast_mul] at hAq
        omega
    have hqQ : q = Q + 1 := by
      have : Q < q := by rw [hQ]; exact (Nat.div_lt_iff_lt_mul hBp).2 hlt
      omega
    subst hqQ
    (repeat refine Ex.assoc ?_); refine Ex.step (m := 0) (by simp (config := {decide := true}) only [RS, Nat.reduceAdd]; rfl) ?_
    (repeat refine Ex.assoc ?_); refine Ex.step (m := 0) (by simp (config := {decide := true}) only [RS, Nat.reduceAdd, g1, tSl, aLen]; rfl) ?_
    refine Ex.forget fun E hE => ?_; have k0 := hE 0; simp (config := {decide := true}) only [RS, Nat.reduceAdd, g0, g1, g5, g7] at k0; have k1 := hE 1; simp (config := {decide := true}) only [RS, Nat.reduceAdd, g0, g1, g5, g7] at k1; have k5 := hE 5; simp (config := {decide := true}) only [RS, Nat.reduceAdd, g0, g1, g5, g7] at k5; have k7 := hE 7; simp (config := {decide := true}) only [RS, Nat.reduceAdd, g0, g1, g5, g7] at k7; have k13 := hE 13; simp (config := {decide := true}) only [RS, Nat.reduceAdd, g0, g1, g5, g7] at k13; have k135 := hE 135; simp (config := {decide := true}) only [RS, Nat.reduceAdd, g0, g1, g5, g7] at k135; have k136 := hE 136; simp (config := {decide := true}) only [RS, Nat.reduceAdd, g0, g1, g5, g7] at k136; have k137 := hE 137; simp (config := {decide := true}) only [RS, Nat.reduceAdd, g0, g1, g5, g7] at k137; clear hE g0 g1 g5 g7; have g0 := k0; clear k0; have g1 := k1; clear k1; have g5 := k5; clear k5; have g7 := k7; clear k7; have g13 := k13; clear k13; have g135 := k135; clear k135; have g136 := k136; clear k136; have g137 := k137; clear k137
    refine Ex.cut (fun env h' => ∃ (u : Nat) (w4 : List Nat), u ≤ 1 ∧ w4.length = n + 1 ∧ small w4 ∧ dig w4 n = x ∧ digVal (w4.take n) + P * u = digVal (w3.take n) + digVal db ∧
      env.get 0 = some (.slice ab pre.length (n + 1) ac ae 1) ∧ env.get 5 = some (.int .i64 n) ∧ env.get 7 = some (.int .u64 ((Q + 1 : Nat) : Int)) ∧ env.get 13 = some (.int .u64 u) ∧
      h.nx ≤ h'.nx ∧ ∀ b, h'.m.get b = if b = ab then some (.row (u32s (pre ++ w4 ++ suf)) false) else h.m.get b) (Ex.block ?_) ?_
    · refine Ex.loop (fun k env h' => ∃ (i u : Nat) (w4 : List Nat), k = n - i ∧ i ≤ n ∧ u ≤ 1 ∧ w4.length = n + 1 ∧ small w4 ∧ (∀ j, i ≤ j → dig w4 j = dig w3 j) ∧ digVal (w4.take i) + 4294967296 ^ i * u = digVal (w3.take i) + digVal (db.take i) ∧
        env.get 0 = some (.slice ab pre.length (n + 1) ac ae 1) ∧ env.get 1 = some (.slice bb bo n bc be 1) ∧ env.get 5 = some (.int .i64 n) ∧ env.get 7 = some (.int .u64 ((Q + 1 : Nat) : Int)) ∧ env.get 13 = some (.int .u64 u) ∧
        env.get 135 = some (.slice bb bo n bc be 1) ∧ env.get 136 = some (.int .i64 n) ∧ env.get 137 = some (.int .i64 i) ∧
        h.nx ≤ h'.nx ∧ ∀ b, h'.m.get b = if b = ab then some (.row (u32s (pre ++ w4 ++ suf)) false) else h.m.get b) ?_ n _ _ ?_
      · clear g0 g1 g5 g7 g13 g135 g136 g137
        rintro k env h' ⟨i, u, w4, rfl, k1, k2, k4, k5, k6, k7, g0, g1, g5, g7, g13, g135, g136, g137, k8, k9⟩
        (repeat refine Ex.assoc ?_); refine Ex.step (m := 0) (by simp (config := {decide := true}) only [RS, Nat.reduceAdd, g136, g137]; rfl) ?_
        refine Ex.forget fun E hE => ?_; have k0 := hE 0; simp (config := {decide := true}) only [RS, Nat.reduceAdd, g0, g1, g5, g7, g13, g135, g136, g137] at k0; have k1 := hE 1; simp (config := {decide := true}) only [RS, Nat.reduceAdd, g0, g1, g5, g7, g13, g135, g136, g137] at k1; have k5 := hE 5; simp (config := {decide := true}) only [RS, Nat.reduceAdd, g0, g1, g5, g7, g13, g135, g136, g137] at k5; have k7 := hE 7; simp (config := {decide := true}) only [RS, Nat.reduceAdd, g0, g1, g5, g7, g13, g135, g136, g137] at k7; have k13 := hE 13; simp (config := {decide := true}) only [RS, Nat.reduceAdd, g0, g1, g5, g7, g13, g135, g136, g137] at k13; have k135 := hE 135; simp (config := {decide := true}) only [RS, Nat.reduceAdd, g0, g1, g5, g7, g13, g135, g136, g137] at k135; have k136 := hE 136; simp (config := {decide := true}) only [RS, Nat.reduceAdd, g0, g1, g5, g7, g13, g135, g136, g137] at k136; have k137 := hE 137; simp (config := {decide := true}) only [RS, Nat.reduceAdd, g0, g1, g5, g7, g13, g135, g136, g137] at k137; have k138 := hE 138; simp (config := {decide := true}) only [RS, Nat.reduceAdd, g0, g1, g5, g7, g13, g135, g136, g137] at k138; clear hE g0 g1 g5 g7 g13 g135 g136 g137; have g0 := k0; clear k0; have g1 := k1; clear k1; have g5 := k5; clear k5; have g7 := k7; clear k7; have g13 := k13; clear k13; have g135 := k135; clear k135; have g136 := k136; clear k136; have g137 := k137; clear k137; have g138 := k138; clear k138
        by_cases hi : i < n
        · have hi1 : ((i : Nat) : Int) < (n : Int) := by omega
          refine Ex.ifT (by simp (config := {decide := true}) only [RS, Nat.reduceAdd, g138, hi1]) (Ex.skipS ?_)
          refine Ex.seq (Ex.block ?_)
          have ha' : h'.m.get ab = some (.row (u32s (pre ++ w4 ++ suf)) false) := by rw [k9, if_pos rfl]
          have gb := fun nx => (getCells_ne (h := ⟨h.m, nx⟩) (h' := ⟨h'.m, nx⟩) (bb := bb) (bo := bo + i * 1) (n := 1) (by simp only [k9, if_neg (Ne.symm hne)])).trans (slice_get hb (i := i) (by omega) nx)
          have ga := fun nx => win_get ha' (i := i) (by omega) nx
          rw [k6 i (Nat.le_refl _)] at ga
          have ly := dig_lt sb i
          have la := dig_lt sw3 i
          have e3 : (0 ≤ ((i : Nat) : Int) ∧ ((i : Nat) : Int) < ((n : Nat) : Int)) := by omega
          have e4 : (0 ≤ ((i : Nat) : Int) ∧ ((i : Nat) : Int) < ((n + 1 : Nat) : Int)) := by omega
          have hD := digVal_take_succ db i
          have hWt := digVal_take_succ w3 i
          obtain ⟨y, hy⟩ : ∃ y, y = dig db i := ⟨_, rfl⟩
          obtain ⟨a, hay⟩ : ∃ a, a = dig w3 i := ⟨_, rfl⟩
          rw [← hy] at gb ly hD
          rw [← hay] at ga la hWt
          (repeat refine Ex.assoc ?_); refine Ex.step (m := 0) (by simp (config := {decide := true}) only [RS, Nat.reduceAdd, g135, g137, tSl, tU32, hU32, sU32, aU32, e3, Int.toNat_natCast, gb]; rfl) ?_
          refine Ex.forget fun E hE => ?_; have k0 := hE 0; simp (config := {decide := true}) only [RS, Nat.reduceAdd, g0, g1, g5, g7, g13, g135, g136, g137, g138] at k0; have k1 := hE 1; simp (config := {decide := true}) only [RS, Nat.reduceAdd, g0, g1, g5, g7, g13, g135, g136, g137, g138] at k1; have k5 := hE 5; simp (config := {decide := true}) only [RS, Nat.reduceAdd, g0, g1, g5, g7, g13, g135, g136, g137, g138] at k5; have k7 := hE 7; simp (config := {decide := true}) only [RS, Nat.reduceAdd, g0, g1, g5, g7, g13, g135, g136, g137, g138] at k7; have k13 := hE 13; simp (config := {decide := true}) only [RS, Nat.reduceAdd, g0, g1, g5, g7, g13, g135, g136, g137, g138] at k13; have k14 := hE 14; simp (config := {decide := true}) only [RS, Nat.reduceAdd, g0, g1, g5, g7, g13, g135, g136, g137, g138] at k14; have k15 := hE 15; simp (config := {decide := true}) only [RS, Nat.reduceAdd, g0, g1, g5, g7, g13, g135, g136, g137, g138] at k15; have k135 := hE 135; simp (config := {decide := true}) only [RS, Nat.reduceAdd, g0, g1, g5, g7, g13, g135, g136, g137, g138] at k135; have k136 := hE 136; simp (config := {decide := true}) only [RS, Nat.reduceAdd, g0, g1, g5, g7, g13, g135, g136, g137, g138] at k136; have k137 := hE 137; simp (config := {decide := true}) only [RS, Nat.reduceAdd, g0, g1, g5, g7, g13, g135, g136, g137, g138] at k137; clear hE g0 g1 g5 g7 g13 g135 g136 g137 g138; have g0 := k0; clear k0; have g1 := k1; clear k1; have g5 := k5; clear k5; have g7 := k7; clear k7; have g13 := k13; clear k13; have g14 := k14; clear k14; have g15 := k15; clear k15; have g135 := k135; clear k135; have g136 := k136; clear k136; have g137 := k137; clear k137
          obtain ⟨t, ht⟩ : ∃ t, t = u + (a + y) := ⟨_, rfl⟩
          have y1 : IntKind.u64.wrap ((y : Nat) : Int) = (y : Nat) := by rw [wrap_u64] <;> omega
          have y2 : IntKind.u64.wrap ((a : Nat) : Int) = (a : Nat) := by rw [wrap_u64] <;> omega
          have y3 : IntKind.u64.wrap (((a : Nat) : Int) + ((y : Nat) : Int)) = ((a + y : Nat) : Int) := by rw [wrap_u64] <;> omega
          have y4 : IntKind.u64.wrap (((u : Nat) : Int) + ((a + y : Nat) : Int)) = ((t : Nat) : Int) := by rw [wrap_u64] <;> omega
          (repeat refine Ex.assoc ?_); refine Ex.step (m := 0) (by simp (config := {decide := true}) only [RS, Nat.reduceAdd, g0, g13, g14, g15, tSl, tU32, tU64, hU32, sU32, aU32, e4, Int.toNat_natCast, ga, y1, y2, y3, y4]; rfl) ?_
          refine Ex.forget fun E hE => ?_; have k0 := hE 0; simp (config := {decide := true}) only [RS, Nat.reduceAdd, g0, g1, g5, g7, g13, g14, g15, g135, g136, g137] at k0; have k1 := hE 1; simp (config := {decide := true}) only [RS, Nat.reduceAdd, g0, g1, g5, g7, g13, g14, g15, g135, g136, g137] at k1; have k5 := hE 5; simp (config := {decide := true}) only [RS, Nat.reduceAdd, g0, g1, g5, g7, g13, g14, g15, g135, g136, g137] at k5; have k7 := hE 7; simp (config := {decide := true}) only [RS, Nat.reduceAdd, g0, g1, g5, g7, g13, g14, g15, g135, g136, g137] at k7; have k13 := hE 13; simp (config := {decide := true}) only [RS, Nat.reduceAdd, g0, g1, g5, g7, g13, g14, g15, g135, g136, g137] at k13; have k14 := hE 14; simp (config := {decide := true}) only [RS, Nat.reduceAdd, g0, g1, g5, g7, g13, g14, g15, g135, g136, g137] at k14; have k135 := hE 135; simp (config := {decide := true}) only [RS, Nat.reduceAdd, g0, g1, g5, g7, g13, g14, g15, g135, g136, g137] at k135; have k136 := hE 136; simp (config := {decide := true}) only [RS, Nat.reduceAdd, g0, g1, g5, g7, g13, g14, g15, g135, g136, g137] at k136; have k137 := hE 137; simp (config := {decide := true}) only [RS, Nat.reduceAdd, g0, g1, g5, g7, g13, g14, g15, g135, g136, g137] at k137; clear hE g0 g1 g5 g7 g13 g14 g15 g135 g136 g137; have g0 := k0; clear k0; have g1 := k1; clear k1; have g5 := k5; clear k5; have g7 := k7; clear k7; have g13 := k13; clear k13; have g14 := k14; clear k14; have g135 := k135; clear k135; have g136 := k136; clear k136; have g137 := k137; clear k137
          have y5 : IntKind.u32.wrap ((t : Nat) : Int) = ((t % 4294967296 : Nat) : Int) := by rw [wrap_u32]; omega
          have hp := fun nx => win_put ha' (i := i) (x := t % 4294967296) (by omega) nx
          (repeat refine Ex.assoc ?_); refine Ex.step (m := 0) (by simp (config := {decide := true}) only [RS, Nat.reduceAdd, g0, g13, g14, tSl, tU32, tU64, hU32, sU32, e4, Int.toNat_natCast, y5, hp]; rfl) ?_
          refine Ex.forget fun E hE => ?_; have k0 := hE 0; simp (config := {decide := true}) only [RS, Nat.reduceAdd, g0, g1, g5, g7, g13, g14, g135, g136, g137] at k0; have k1 := hE 1; simp (config := {decide := true}) only [RS, Nat.reduceAdd, g0, g1, g5, g7, g13, g14, g135, g136, g137] at k1; have k5 := hE 5; simp (config := {decide := true}) only [RS, Nat.reduceAdd, g0, g1, g5, g7, g13, g14, g135, g136, g137] at k5; have k7 := hE 7; simp (config := {decide := true}) only [RS, Nat.reduceAdd, g0, g1, g5, g7, g13, g14, g135, g136, g137] at k7; have k13 := hE 13; simp (config := {decide := true}) only [RS, Nat.reduceAdd, g0, g1, g5, g7, g13, g14, g135, g136, g137] at k13; have k135 := hE 135; simp (config := {decide := true}) only [RS, Nat.reduceAdd, g0, g1, g5, g7, g13, g14, g135, g136, g137] at k135; have k136 := hE 136; simp (config := {decide := true}) only [RS, Nat.reduceAdd, g0, g1, g5, g7, g13, g14, g135, g136, g137] at k136; have k137 := hE 137; simp (config := {decide := true}) only [RS, Nat.reduceAdd, g0, g1, g5, g7, g13, g14, g135, g136, g137] at k137; clear hE g0 g1 g5 g7 g13 g14 g135 g136 g137; have g0 := k0; clear k0; have g1 := k1; clear k1; have g5 := k5; clear k5; have g7 := k7; clear k7; have g13 := k13; clear k13; have g135 := k135; clear k135; have g136 := k136; clear k136; have g137 := k137; clear k137
          have y9 : ((t : Nat) : Int).fdiv (2 ^ (min (Int.toNat 32) (IntKind.bits .u64))) = ((t / 4294967296 : Nat) : Int) := by
            rw [show (2 ^ (min (Int.toNat 32) (IntKind.bits .u64)) : Int) = ((4294967296 : Nat) : Int) by decide, Int.fdiv_eq_ediv_of_nonneg _ (by omega)]; rfl
          refine Ex.last (m := 0) (by simp (config := {decide := true}) only [RS, Nat.reduceAdd, g13, y9]; rfl) ?_
          simp (config := {decide := true}) only [thenK, blockK, ite_true, ite_false, if_true, if_false]
          have y0 : IntKind.i64.wrap (((i : Nat) : Int) + 1) = ((i + 1 : Nat) : Int) := by rw [wrap_i64] <;> omega
          refine Ex.last (m := 0) (by simp (config := {decide := true}) only [RS, Nat.reduceAdd, g137, y0]; rfl) ?_
          simp (config := {decide := true}) only [thenK, blockK, ite_true, ite_false, if_true, if_false]
          refine ⟨n - (i + 1), by omega, i + 1, t / 4294967296, w4.set i (t % 4294967296), rfl, by omega, by omega, by simpa using k4, small_set k5 (by omega) i, fun j hj => ?_, ?_, by simp (config := {decide := true}) only [RS, Nat.reduceAdd, g0], by simp (config := {decide := true}) only [RS, Nat.reduceAdd, g1], by simp (config := {decide := true}) only [RS, Nat.reduceAdd, g5], by simp (config := {decide := true}) only [RS, Nat.reduceAdd, g7], by simp (config := {decide := true}) only [RS, Nat.reduceAdd], by simp (config := {decide := true}) only [RS, Nat.reduceAdd, g135], by simp (config := {decide := true}) only [RS, Nat.reduceAdd, g136], by simp (config := {decide := true}) only [RS, Nat.reduceAdd], (by first | omega | (simp only [Nat.add_assoc]; omega) | (dsimp only; omega)), fun b => ?_⟩
          · rw [dig_set (by omega)]; exact k6 j (by omega)
          · rw [digVal_set_take (by omega), hWt, hD, Nat.pow_succ]
            have hm : t = t % 4294967296 + 4294967296 * (t / 4294967296) := (Nat.mod_add_div t 4294967296).symm
            have : 4294967296 ^ i * (t % 4294967296) + 4294967296 ^ i * 4294967296 * (t / 4294967296) = 4294967296 ^ i * t := by
              rw [Nat.mul_assoc, ← Nat.mul_add, ← hm]
            have h7' : 4294967296 ^ i * t = 4294967296 ^ i * u + (4294967296 ^ i * a + 4294967296 ^ i * y) := by
              rw [ht, Nat.mul_add, Nat.mul_add]
            omega
          · simp only [PT.get_set, k9]
            split <;> rfl
        · have hi1 : ¬ ((i : Nat) : Int) < (n : Int) := by omega
          refine Ex.ifF (by simp (config := {decide := true}) only [RS, Nat.reduceAdd, g138, hi1]) (Ex.exitS ?_)
          simp (config := {decide := true}) only [thenK, blockK, ite_true, ite_false, if_true, if_false]
          have hiN : i = n := by omega
          subst hiN
          rw [hdt, ← hP] at k7
          exact ⟨u, w4, k2, k4, k5, (k6 i (Nat.le_refl _)).trans hw3n, k7, g0, g5, g7, g13, (by first | omega | (simp only [Nat.add_assoc]; omega) | (dsimp only; omega)), k9⟩
      · exact ⟨0, 0, w3, by omega, by omega, by omega, hw3l, sw3, fun _ _ => rfl, by simp [digVal], g0, g1, g5, g7, by rw [g13]; rfl, g135, g136, by rw [g137]; rfl, (by first | omega | (simp only [Nat.add_assoc]; omega) | (dsimp only; omega)), hm3⟩
    clear g0 g1 g5 g7 g13 g135 g136 g137
    rintro env h' ⟨u, w4, k2, k4, k5, k6, k7, g0, g5, g7, g13, k8, k9⟩
    have ha4 : h'.m.get ab = some (.row (u32s (pre ++ w4 ++ suf)) false) := by rw [k9, if_pos rfl]
    have ga := fun nx => win_get ha4 (i := n) (by omega) nx
    rw [k6] at ga
    have hl4 := digVal_take_lt k5 n
    rw [← hP] at hl4
    have hru : rest = -(u : Int) ∧ u = 1 := by
      have h1 : (digVal w : Int) - Q * digVal db = digVal (w4.take n) + P * (u + rest) := by
        have e1 : ((digVal (w4.take n) + P * u : Nat) : Int) = ((digVal (w3.take n) + digVal db : Nat) : Int) := by rw [k7]
        rw [hw3t] at e1
        simp only [Int.natCast_add, Int.natCast_mul] at e1 hAq
        grind
      have h2 : 0 ≤ (digVal w : Int) - Q * digVal db := by
        rw [← Int.natCast_mul, Nat.mul_comm]; omega
      have h3 : (u : Int) + rest ≤ 0 := by omega
      rcases Int.lt_or_le ((u : Int) + rest) 0 with h4 | h4
      · exfalso
        have h5 : (P : Int) * (u + rest) ≤ P * (-1) := Int.mul_le_mul_of_nonneg_left (by omega) (by omega)
        omega
      · omega
    obtain ⟨hru, rfl⟩ := hru
    have hx1 : x = 4294967295 := by omega
    have y1 : IntKind.u32.wrap ((1 : Nat) : Int) = 1 := by rw [wrap_u32]; omega
    have y2 : IntKind.u32.wrap (((x : Nat) : Int) + 1) = ((0 : Nat) : Int) := by rw [wrap_u32, hx1]; omega
    have hp := fun nx => win_put ha4 (i := n) (x := 0) (by omega) nx
    (repeat refine Ex.assoc ?_); refine Ex.step (m := 0) (by simp (config := {decide := true}) only [RS, Nat.reduceAdd, g0, g5, g13, tSl, tU32, tU64, hU32, sU32, aU32, c0, Int.toNat_natCast, ga, y1, y2, hp]; rfl) ?_
    refine Ex.forget fun E hE => ?_; have k7 := hE 7; simp (config := {decide := true}) only [RS, Nat.reduceAdd, g0, g5, g7, g13] at k7; clear hE g0 g5 g7 g13; have g7 := k7; clear k7
    have y3 : IntKind.u64.wrap (((Q + 1 : Nat) : Int) - 1) = (Q : Nat) := by rw [wrap_u64] <;> omega
    have y4 : IntKind.u32.wrap ((Q : Nat) : Int) = (Q : Nat) := by rw [wrap_u32]; omega
    (repeat refine Ex.assoc ?_); refine Ex.step (m := 0) (by simp (config := {decide := true}) only [RS, Nat.reduceAdd, g7, tU32, tU64, y3, y4]; rfl) ?_
    refine Ex.ret ⟨trivial, _, by simp (config := {decide := true}) only [RS, Nat.reduceAdd]; rfl, ?_⟩
    simp (config := {decide := true}) only [RS, Nat.reduceAdd]
    refine ⟨Q, w4.set n 0, rfl, hQ, by simpa using k4, small_set k5 (by omega) n, (by first | omega | (simp only [Nat.add_assoc]; omega) | (dsimp only; omega)), fun b => ?_, ?_⟩
    · rw [k9]
      split <;> rfl
    · have hv4 := digVal_set_take (w := w4) (i := n) (x := 0) (by omega)
      rw [List.take_of_length_le (by simp; omega), Nat.mul_zero, Nat.add_zero] at hv4
      rw [hv4]
      have e1 : ((digVal (w4.take n) + P * 1 : Nat) : Int) = ((digVal (w3.take n) + digVal db : Nat) : Int) := by rw [k7]
      rw [hw3t] at e1
      have e2 : (digVal w : Int) = Q * digVal db + digVal (w4.take n) := by
        simp only [Int.natCast_add, Int.natCast_mul] at e1 hAq
        rw [hru] at hAq
        grind
      rw [← Int.natCast_mul, Nat.mul_comm] at e2
      omega
end Go.Vk
