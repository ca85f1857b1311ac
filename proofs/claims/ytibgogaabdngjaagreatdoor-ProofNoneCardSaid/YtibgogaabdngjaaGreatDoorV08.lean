/- Part of a proof. How many decimal digits. How many decimal digits: the run; small numbers. Decimal digits: the run. strconv.FormatUint below a thousand millions; strings.Repeat of noughts. Numbers as texts. Numbers as texts: the run. -/
import Derived.Test.YtibgogaabdngjaaGreatDoorV07
set_option linter.unusedSimpArgs false
set_option linter.unusedVariables false
set_option maxRecDepth 100000
set_option maxHeartbeats 4000000
namespace Go.Vk
open Go.Proofs (Tryz.prog)
theorem tU8 : Tryz.prog.underlying 5 = some (.int .u8) := by kernel_rfl
theorem tStr : Tryz.prog.underlying 9 = some .string := by kernel_rfl
theorem tPow : Tryz.prog.underlying 396 = some (.array 20 132) := by kernel_rfl
theorem hU64 : hasT Tryz.prog 132 = true := by kernel_rfl
theorem sU64 : sizeT Tryz.prog 132 = 1 := by kernel_rfl
theorem aU64 : aggT Tryz.prog 132 = false := by kernel_rfl
theorem wrap_u8 {x : Int} (h1 : 0 ≤ x) (h2 : x < 256) : IntKind.u8.wrap x = x := by
  simp [IntKind.wrap, IntKind.bits, IntKind.signed]
  omega
def len8L : List Nat := (List.range 256).map blen
theorem len8_eq : bytesOf ({ data := ((([0, 1, 2, 2, 3, 3, 3, 3, 4, 4, 4, 4, 4, 4, 4, 4, 5, 5, 5, 5, 5, 5, 5, 5, 5, 5, 5, 5, 5, 5, 5, 5, 6, 6, 6, 6, 6, 6, 6, 6, 6, 6, 6, 6, 6, 6, 6, 6, 6, 6, 6, 6, 6, 6, 6, 6, 6, 6, 6, 6, 6, 6, 6, 6]).append ([7, 7, 7, 7, 7, 7, 7, 7, 7, 7, 7, 7, 7, 7, 7, 7, 7, 7, 7, 7, 7, 7, 7, 7, 7, 7, 7, 7, 7, 7, 7, 7, 7, 7, 7, 7, 7, 7, 7, 7, 7, 7, 7, 7, 7, 7, 7, 7, 7, 7, 7, 7, 7, 7, 7, 7, 7, 7, 7, 7, 7, 7, 7, 7])).append (([8, 8, 8, 8, 8, 8, 8, 8, 8, 8, 8, 8, 8, 8, 8, 8, 8, 8, 8, 8, 8, 8, 8, 8, 8, 8, 8, 8, 8, 8, 8, 8, 8, 8, 8, 8, 8, 8, 8, 8, 8, 8, 8, 8, 8, 8, 8, 8, 8, 8, 8, 8, 8, 8, 8, 8, 8, 8, 8, 8, 8, 8, 8, 8]).append ([8, 8, 8, 8, 8, 8, 8, 8, 8, 8, 8, 8, 8, 8, 8, 8, 8, 8, 8, 8, 8, 8, 8, 8, 8, 8, 8, 8, 8, 8, 8, 8, 8, 8, 8, 8, 8, 8, 8, 8, 8, 8, 8, 8, 8, 8, 8, 8, 8, 8, 8, 8, 8, 8, 8, 8, 8, 8, 8, 8, 8, 8, 8, 8]))).toArray } : ByteArray) = len8L := by decide
theorem len8_at {r : Nat} (hr : r < 256) : len8L[r]? = some (blen r) := by
  unfold len8L
  rw [List.getElem?_map, List.getElem?_range hr]; rfl
theorem blen_shift {x s : Nat} (h : 0 < x / 2 ^ s) : blen x = s + blen (x / 2 ^ s) := by
  have h1 : x ≠ 0 := fun e => by subst e; simp at h
  unfold blen
  rw [if_neg h1, if_neg (by omega)]
  rw [← Nat.add_assoc]
  congr 1
  rw [Nat.log2_eq_iff h1]
  have h2 := Nat.log2_self_le (n := x / 2 ^ s) (by omega)
  have h3 := Nat.lt_log2_self (n := x / 2 ^ s)
  have hp : 0 < 2 ^ s := Nat.two_pow_pos s
  constructor
  · rw [Nat.pow_add, Nat.mul_comm]
    exact Nat.le_trans (Nat.mul_le_mul_right _ h2) (Nat.div_mul_le_self _ _)
  · rw [Nat.add_assoc, Nat.pow_add, Nat.mul_comm]
    exact (Nat.div_lt_iff_lt_mul hp).1 h3
theorem fn_len64 : fnE Tryz.prog 330 = some ⟨(Go.Proofs.Tryz.f330.body).getD .skip, 25, [.tmp 2]⟩ := by kernel_rfl
theorem len64_run {hk : Hooks} (hn : ∀ a h, hk 330 a h = none) {h : Hp} {x : Nat} (hx : x < 4294967296) :
    ExF Tryz.prog hk 330 [.int .u64 x] h fun r' h1 => r' = .int .i64 (blen x : Nat) ∧ h1.m = h.m := by
  refine ExF.body fn_len64 (hn _ _) (by simp) ?_
  simp only [Go.Proofs.Tryz.f330, Option.getD_some]
  (repeat refine Ex.assoc ?_); refine Ex.step (m := 0) (by simp (config := {decide := true}) only [RS, Nat.reduceAdd]; rfl) ?_
  (repeat refine Ex.assoc ?_); refine Ex.step (m := 0) (by simp (config := {decide := true}) only [RS, Nat.reduceAdd]; rfl) ?_
  refine Ex.forget fun E hE => ?_; have k0 := hE 0; simp (config := {decide := true}) only [RS, Nat.reduceAdd] at k0; have k2 := hE 2; simp (config := {decide := true}) only [RS, Nat.reduceAdd] at k2; have k4 := hE 4; simp (config := {decide := true}) only [RS, Nat.reduceAdd] at k4; clear hE; have g0 := k0; clear k0; have g2 := k2; clear k2; have g4 := k4; clear k4
  have c1 : ¬ ((x : Nat) : Int) ≥ 4294967296 := by omega
  (repeat refine Ex.assoc ?_)
  refine Ex.ifF (by simp (config := {decide := true}) only [RS, Nat.reduceAdd, g4, c1]) (Ex.skipS ?_)
  (repeat refine Ex.assoc ?_); refine Ex.step (m := 0) (by simp (config := {decide := true}) only [RS, Nat.reduceAdd, g0]; rfl) ?_
  refine Ex.forget fun E hE => ?_; have k0 := hE 0; simp (config := {decide := true}) only [RS, Nat.reduceAdd, g0, g2, g4] at k0; have k2 := hE 2; simp (config := {decide := true}) only [RS, Nat.reduceAdd, g0, g2, g4] at k2; have k8 := hE 8; simp (config := {decide := true}) only [RS, Nat.reduceAdd, g0, g2, g4] at k8; clear hE g0 g2 g4; have g0 := k0; clear k0; have g2 := k2; clear k2; have g8 := k8; clear k8
  (repeat refine Ex.assoc ?_)
  refine Ex.cut (fun env h' => ∃ s y : Nat, (s = 0 ∨ s = 16) ∧ y < 65536 ∧ blen x = s + blen y ∧ env.get 0 = some (.int .u64 y) ∧ env.get 2 = some (.int .i64 s) ∧ h'.m = h.m) ?_ ?_
  · by_cases hc : x ≥ 65536
    · have c2 : ((x : Nat) : Int) ≥ 65536 := by omega
      refine Ex.cond_true (by simp (config := {decide := true}) only [RS, Nat.reduceAdd, g8, c2]) ?_
      have s16 : ((x : Nat) : Int).fdiv (2 ^ (min (Int.toNat 16) (IntKind.bits .u64))) = ((x / 2 ^ 16 : Nat) : Int) := shr_w (z := x) (r := 16) (by omega)
      (repeat refine Ex.assoc ?_); refine Ex.step (m := 0) (by simp (config := {decide := true}) only [RS, Nat.reduceAdd, g0, s16]; rfl) ?_
      refine Ex.last (m := 0) (by simp (config := {decide := true}) only [RS, Nat.reduceAdd, g2]; rfl) ?_
      simp (config := {decide := true}) only [thenK, blockK, ite_true, ite_false, if_true, if_false]
      have hp : 0 < x / 2 ^ 16 := by rw [show (2 : Nat) ^ 16 = 65536 by decide]; omega
      have hs := blen_shift hp
      refine ⟨16, x / 2 ^ 16, .inr rfl, by rw [show (2 : Nat) ^ 16 = 65536 by decide]; omega, hs, by simp (config := {decide := true}) only [RS, Nat.reduceAdd] <;> rfl, by simp (config := {decide := true}) only [RS, Nat.reduceAdd] <;> rfl, by trivial⟩
    · have c2 : ¬ ((x : Nat) : Int) ≥ 65536 := by omega
      refine Ex.cond_false (by simp (config := {decide := true}) only [RS, Nat.reduceAdd, g8, c2]) (Ex.skip ?_)
      simp (config := {decide := true}) only [thenK, blockK, ite_true, ite_false, if_true, if_false]
      exact ⟨0, x, .inl rfl, by omega, by omega, g0, g2, by trivial⟩
  clear g0 g2 g8
  rintro env h' ⟨s, y, hs, hy, hb, g0, g2, hm⟩
  (repeat refine Ex.assoc ?_); refine Ex.step (m := 0) (by simp (config := {decide := true}) only [RS, Nat.reduceAdd, g0]; rfl) ?_
  refine Ex.forget fun E hE => ?_; have k0 := hE 0; simp (config := {decide := true}) only [RS, Nat.reduceAdd, g0, g2] at k0; have k2 := hE 2; simp (config := {decide := true}) only [RS, Nat.reduceAdd, g0, g2] at k2; have k14 := hE 14; simp (config := {decide := true}) only [RS, Nat.reduceAdd, g0, g2] at k14; clear hE g0 g2; have g0 := k0; clear k0; have g2 := k2; clear k2; have g14 := k14; clear k14
  (repeat refine Ex.assoc ?_)
  refine Ex.cut (fun env h' => ∃ s y : Nat, s ≤ 24 ∧ y < 256 ∧ blen x = s + blen y ∧ env.get 0 = some (.int .u64 y) ∧ env.get 2 = some (.int .i64 s) ∧ h'.m = h.m) ?_ ?_
  · by_cases hc : y ≥ 256
    · have c2 : ((y : Nat) : Int) ≥ 256 := by omega
      refine Ex.cond_true (by simp (config := {decide := true}) only [RS, Nat.reduceAdd, g14, c2]) ?_
      have hp : 0 < y / 2 ^ 8 := by rw [show (2 : Nat) ^ 8 = 256 by decide]; omega
      have hs' := blen_shift hp
      have w1 : IntKind.i64.wrap (((s : Nat) : Int) + 8) = ((s + 8 : Nat) : Int) := by rw [wrap_i64] <;> omega
      have s8 : ((y : Nat) : Int).fdiv (2 ^ (min (Int.toNat 8) (IntKind.bits .u64))) = ((y / 2 ^ 8 : Nat) : Int) := shr_w (z := y) (r := 8) (by omega)
      (repeat refine Ex.assoc ?_); refine Ex.step (m := 0) (by simp (config := {decide := true}) only [RS, Nat.reduceAdd, g0, s8]; rfl) ?_
      refine Ex.last (m := 0) (by simp (config := {decide := true}) only [RS, Nat.reduceAdd, g2, w1]; rfl) ?_
      simp (config := {decide := true}) only [thenK, blockK, ite_true, ite_false, if_true, if_false]
      refine ⟨s + 8, y / 2 ^ 8, by omega, by rw [show (2 : Nat) ^ 8 = 256 by decide]; omega, by omega, by simp (config := {decide := true}) only [RS, Nat.reduceAdd] <;> rfl, by simp (config := {decide := true}) only [RS, Nat.reduceAdd], by trivial⟩
    · have c2 : ¬ ((y : Nat) : Int) ≥ 256 := by omega
      refine Ex.cond_false (by simp (config := {decide := true}) only [RS, Nat.reduceAdd, g14, c2]) (Ex.skip ?_)
      simp (config := {decide := true}) only [thenK, blockK, ite_true, ite_false, if_true, if_false]
      exact ⟨s, y, by omega, by omega, hb, g0, g2, hm⟩
  clear g0 g2 g14 hs hy hb hm
  rintro env h' ⟨s, y, hs, hy, hb, g0, g2, hm⟩
  have w1 : IntKind.u8.wrap ((y : Nat) : Int) = (y : Nat) := by rw [wrap_u8] <;> omega
  have w2 : IntKind.i64.wrap ((blen y : Nat) : Int) = (blen y : Nat) := by
    have : blen y ≤ 8 := by
      unfold blen; split
      · omega
      · have := (Nat.log2_lt (by omega : y ≠ 0) (k := 8)).2 (by omega); omega
    rw [wrap_i64] <;> omega
  have w3 : IntKind.i64.wrap (((s : Nat) : Int) + ((blen y : Nat) : Int)) = ((blen x : Nat) : Int) := by
    rw [hb, wrap_i64] <;> have : blen y ≤ 8 := by
      unfold blen; split
      · omega
      · have := (Nat.log2_lt (by omega : y ≠ 0) (k := 8)).2 (by omega); omega
    all_goals omega
  have c3 : 0 ≤ ((y : Nat) : Int) := by omega
  (repeat refine Ex.assoc ?_); refine Ex.step (m := 0) (by simp (config := {decide := true}) only [RS, Nat.reduceAdd, g0, g2, tU8, tU64, tInt, tStr, w1, w2, len8_eq, len8_at hy, Int.toNat_natCast, w3, c3]; rfl) ?_
  refine Ex.ret ⟨trivial, _, by simp (config := {decide := true}) only [RS, Nat.reduceAdd]; rfl, ?_, hm⟩
  simp (config := {decide := true}) only [RS, Nat.reduceAdd]
end Go.Vk
set_option linter.unusedSimpArgs false
set_option linter.unusedVariables false
set_option maxRecDepth 100000
set_option maxHeartbeats 4000000
namespace Go.Vk
open Go.Proofs (Tryz.prog)
theorem blen_bounds {x : Nat} (h : 0 < x) : 2 ^ (blen x - 1) ≤ x ∧ x < 2 ^ blen x := by
  unfold blen
  rw [if_neg (by omega)]
  exact ⟨by rw [Nat.add_sub_cancel]; exact Nat.log2_self_le (by omega), Nat.lt_log2_self⟩
theorem numd {x : Nat} (h1 : 100 ≤ x) (h2 : x < 1000000000) : 2 ≤ blen x * 78913 / 262144 ∧ blen x * 78913 / 262144 ≤ 9 ∧ 10 ^ (blen x * 78913 / 262144 - 1) ≤ x ∧ x < 10 ^ (blen x * 78913 / 262144 + 1) := by
  obtain ⟨a1, a2⟩ := blen_bounds (x := x) (by omega)
  have a3 : 7 ≤ blen x := by
    rcases Nat.lt_or_ge (blen x) 7 with h | h
    · exfalso
      have : 2 ^ blen x ≤ 2 ^ 6 := Nat.pow_le_pow_right (by omega) (by omega)
      omega
    · exact h
  have a4 : blen x < 31 := by
    rcases Nat.lt_or_ge (blen x) 31 with h | h
    · exact h
    · exfalso
      have : 2 ^ 30 ≤ 2 ^ (blen x - 1) := Nat.pow_le_pow_right (by omega) (by omega)
      omega
  have tab : ∀ L, L < 31 → 7 ≤ L → 2 ≤ L * 78913 / 262144 ∧ L * 78913 / 262144 ≤ 9 ∧ 10 ^ (L * 78913 / 262144 - 1) ≤ 2 ^ (L - 1) ∧ 2 ^ L ≤ 10 ^ (L * 78913 / 262144 + 1) := by decide
  obtain ⟨b1, b2, b3, b4⟩ := tab (blen x) a4 a3
  exact ⟨b1, b2, Nat.le_trans b3 a1, Nat.lt_of_lt_of_le a2 b4⟩
theorem fn_b2i : fnE Tryz.prog 331 = some ⟨(Go.Proofs.Tryz.f331.body).getD .skip, 4, [.tmp 2]⟩ := by kernel_rfl
theorem b2i_run {hk : Hooks} (hn : ∀ a h, hk 331 a h = none) {h : Hp} {b : Bool} :
    ExF Tryz.prog hk 331 [.bool b] h fun r' h1 => r' = .int .i64 (if b then 1 else 0) ∧ h1.m = h.m := by
  refine ExF.body fn_b2i (hn _ _) (by simp) ?_
  simp only [Go.Proofs.Tryz.f331, Option.getD_some]
  (repeat refine Ex.assoc ?_); refine Ex.step (m := 0) (by simp (config := {decide := true}) only [RS, Nat.reduceAdd]; rfl) ?_
  (repeat refine Ex.assoc ?_); refine Ex.step (m := 0) (by simp (config := {decide := true}) only [RS, Nat.reduceAdd]; rfl) ?_
  cases b with
  | true =>
    refine Ex.ifT (by simp (config := {decide := true}) only [RS, Nat.reduceAdd]) ?_
    (repeat refine Ex.assoc ?_); refine Ex.step (m := 0) (by simp (config := {decide := true}) only [RS, Nat.reduceAdd]; rfl) ?_
    refine Ex.retS ⟨trivial, _, by simp (config := {decide := true}) only [RS, Nat.reduceAdd]; rfl, ?_, rfl⟩
    simp (config := {decide := true}) only [RS, Nat.reduceAdd]
  | false =>
    refine Ex.ifF (by simp (config := {decide := true}) only [RS, Nat.reduceAdd]) (Ex.skipS ?_)
    (repeat refine Ex.assoc ?_); refine Ex.step (m := 0) (by simp (config := {decide := true}) only [RS, Nat.reduceAdd]; rfl) ?_
    refine Ex.ret ⟨trivial, _, by simp (config := {decide := true}) only [RS, Nat.reduceAdd]; rfl, ?_, rfl⟩
    simp (config := {decide := true}) only [RS, Nat.reduceAdd]
theorem fn_log10 : fnE Tryz.prog 329 = some ⟨(Go.Proofs.Tryz.f329.body).getD .skip, 6, [.tmp 2]⟩ := by kernel_rfl
theorem log10_run {hk : Hooks} (hn : ∀ a h, hk 329 a h = none) {h : Hp} {x : Nat} (hx : x < 100000) :
    ExF Tryz.prog hk 329 [.int .i64 x] h fun r' h1 => r' = .int .i64 (x * 78913 / 262144 : Nat) ∧ h1.m = h.m := by
  refine ExF.body fn_log10 (hn _ _) (by simp) ?_
  simp only [Go.Proofs.Tryz.f329, Option.getD_some]
  have w1 : IntKind.i64.wrap (((x : Nat) : Int) * 78913) = ((x * 78913 : Nat) : Int) := by rw [wrap_i64] <;> omega
  have w2 : ((x * 78913 : Nat) : Int).fdiv (2 ^ (min (Int.toNat 18) (IntKind.bits .i64))) = ((x * 78913 / 262144 : Nat) : Int) := by
    rw [show (2 ^ (min (Int.toNat 18) (IntKind.bits .i64)) : Int) = ((262144 : Nat) : Int) by decide, Int.fdiv_eq_ediv_of_nonneg _ (by omega)]; rfl
  (repeat refine Ex.assoc ?_); refine Ex.step (m := 0) (by simp (config := {decide := true}) only [RS, Nat.reduceAdd]; rfl) ?_
  (repeat refine Ex.assoc ?_); refine Ex.step (m := 0) (by simp (config := {decide := true}) only [RS, Nat.reduceAdd, w1, w2]; rfl) ?_
  refine Ex.ret ⟨trivial, _, by simp (config := {decide := true}) only [RS, Nat.reduceAdd]; rfl, ?_, rfl⟩
  simp (config := {decide := true}) only [RS, Nat.reduceAdd]
theorem fn_numd : fnE Tryz.prog 255 = some ⟨(Go.Proofs.Tryz.f255.body).getD .skip, 15, [.tmp 2]⟩ := by kernel_rfl
/-- The library's number functions that aren't hooked. -/
structure BareS (hk : Hooks) : Prop where
  grow : GrowOK hk
  len64 : ∀ a h, hk 330 a h = none
  log10 : ∀ a h, hk 329 a h = none
  b2i : ∀ a h, hk 331 a h = none
  numd : ∀ a h, hk 255 a h = none
  small : ∀ a h, hk 254 a h = none
  base10 : ∀ a h, hk 256 a h = none
  fmtI : ∀ a h, hk 183 a h = none
  fmt : ∀ a h, hk 125 a h = none
/-- The table of the powers of ten lies where it lies. -/
def HasPow (h : Hp) : Prop := ∃ ro, h.m.get 1 = some (.row pow10L ro)
theorem pow_at {h : Hp} (hp : HasPow h) {d : Nat} (hd : d < 20) (nx : Nat) : getCells ⟨h.m, nx⟩ 1 (0 + d * 1) 1 = some [.int .u64 ((10 ^ d : Nat) : Int)] := by
  obtain ⟨ro, hb⟩ := hp
  unfold getCells
  simp only [hb]
  have hl : pow10L.length = 20 := by decide
  rw [if_pos (by omega), Nat.zero_add, Nat.mul_one, List.drop_eq_getElem_cons (by omega)]
  simp [pow10L]
theorem numd_run {hk : Hooks} (B : BareS hk) {h : Hp} (hp : HasPow h) {x : Nat} (h1 : 100 ≤ x) (h2 : x < 1000000000) :
    ExF Tryz.prog hk 255 [.int .u64 x] h fun r' h1 => h1.m = h.m ∧ ∃ k : Nat, r' = .int .i64 k ∧ 3 ≤ k ∧ k ≤ 9 ∧ x < 10 ^ k ∧ 10 ^ (k - 1) ≤ x := by
  refine ExF.body fn_numd (B.numd _ _) (by simp) ?_
  simp only [Go.Proofs.Tryz.f255, Option.getD_some]
  obtain ⟨a1, a2, a3, a4⟩ := numd h1 h2
  have hbl : blen x < 100000 := by
    have := (Nat.log2_lt (by omega : x ≠ 0) (k := 30)).2 (by omega)
    unfold blen; rw [if_neg (by omega)]; omega
  obtain ⟨m1, N1, x1, q1⟩ := ExF.same B.grow (len64_run B.len64 (h := ⟨h.m, h.nx + 5⟩) (x := x) (by omega))
  obtain ⟨m2, N2, x2, q2⟩ := ExF.same B.grow (log10_run B.log10 (h := ⟨h.m, N1⟩) (x := blen x) hbl)
  obtain ⟨d, hd⟩ : ∃ d, d = blen x * 78913 / 262144 := ⟨_, rfl⟩
  rw [← hd] at q2 a1 a2 a3 a4
  obtain ⟨m3, N3, x3, q3⟩ := ExF.same B.grow (b2i_run B.b2i (h := ⟨h.m, N2 + 9⟩) (b := decide (((x : Nat) : Int) ≥ ((10 ^ d : Nat) : Int))))
  obtain ⟨mm, hmm⟩ : ∃ mm, mm = m1 + m2 + m3 := ⟨_, rfl⟩
  have q1' := q1 mm (by omega)
  have q2' := q2 mm (by omega)
  have q3' := q3 mm (by omega)
  have e1 : (0 ≤ ((d : Nat) : Int) ∧ ((d : Nat) : Int) < ((20 : Nat) : Int)) := by omega
  have e1' : (0 ≤ ((d : Nat) : Int) ∧ ((d : Nat) : Int) < 20) := by omega
  (repeat refine Ex.assoc ?_); refine Ex.step (m := 0) (by simp (config := {decide := true}) only [RS, Nat.reduceAdd]; rfl) ?_
  (repeat refine Ex.assoc ?_); refine Ex.step (m := mm) (by simp (config := {decide := true}) only [RS, Nat.reduceAdd, fn_len64, fn_log10, q1', q2']; rfl) ?_
  refine Ex.forget fun E hE => ?_; have k0 := hE 0; simp (config := {decide := true}) only [RS, Nat.reduceAdd] at k0; have k3 := hE 3; simp (config := {decide := true}) only [RS, Nat.reduceAdd] at k3; clear hE; have g0 := k0; clear k0; have g3 := k3; clear k3
  (repeat refine Ex.assoc ?_); refine Ex.step (m := mm) (by simp (config := {decide := true}) only [RS, Nat.reduceAdd, g0, g3, tPow, hU64, sU64, aU64, e1, e1', Int.toNat_natCast, pow_at hp (show d < 20 by omega), fn_b2i, q3']; rfl) ?_
  refine Ex.ret ⟨trivial, _, by simp (config := {decide := true}) only [RS, Nat.reduceAdd]; rfl, by trivial, ?_⟩
  simp (config := {decide := true}) only [RS, Nat.reduceAdd]
  by_cases hc : x ≥ 10 ^ d
  · have hc' : ((x : Nat) : Int) ≥ ((10 ^ d : Nat) : Int) := by omega
    refine ⟨d + 1, ?_, by omega, ?_, a4, by rw [Nat.add_sub_cancel]; exact hc⟩
    · rw [decide_eq_true hc', if_pos rfl]
      congr 1
      rw [wrap_i64] <;> omega
    · rcases Nat.lt_or_ge 8 d with h3 | h3
      · exfalso
        have : 10 ^ 9 ≤ 10 ^ d := Nat.pow_le_pow_right (by omega) h3
        omega
      · omega
  · have hc' : ¬ ((x : Nat) : Int) ≥ ((10 ^ d : Nat) : Int) := by omega
    refine ⟨d, ?_, ?_, a2, by omega, a3⟩
    · rw [decide_eq_false hc']
      simp only [Bool.false_eq_true, if_false]
      congr 1
      rw [wrap_i64] <;> omega
    · rcases Nat.lt_or_ge d 3 with h3 | h3
      · exfalso
        have : d = 2 := by omega
        subst this; omega
      · exact h3
theorem fn_small : fnE Tryz.prog 254 = some ⟨(Go.Proofs.Tryz.f254.body).getD .skip, 15, [.tmp 2]⟩ := by kernel_rfl
theorem digitsL_len : digitsL.length = 36 := by decide
theorem small_run {hk : Hooks} (B : BareS hk) {h : Hp} {x : Nat} (hx : x < 100) :
    ExF Tryz.prog hk 254 [.int .i64 x] h fun r' h1 => r' = .str (dec x) ∧ h1.m = h.m := by
  refine ExF.body fn_small (B.small _ _) (by simp) ?_
  simp only [Go.Proofs.Tryz.f254, Option.getD_some]
  (repeat refine Ex.assoc ?_); refine Ex.step (m := 0) (by simp (config := {decide := true}) only [RS, Nat.reduceAdd]; rfl) ?_
  (repeat refine Ex.assoc ?_); refine Ex.step (m := 0) (by simp (config := {decide := true}) only [RS, Nat.reduceAdd]; rfl) ?_
  refine Ex.forget fun E hE => ?_; have k0 := hE 0; simp (config := {decide := true}) only [RS, Nat.reduceAdd] at k0; have k4 := hE 4; simp (config := {decide := true}) only [RS, Nat.reduceAdd] at k4; clear hE; have g0 := k0; clear k0; have g4 := k4; clear k4
  by_cases hc : x < 10
  · have hc' : ((x : Nat) : Int) < 10 := by omega
    refine Ex.ifT (by simp (config := {decide := true}) only [RS, Nat.reduceAdd, g4, hc']) ?_
    have w1 : IntKind.i64.wrap (((x : Nat) : Int) + 1) = ((x + 1 : Nat) : Int) := by rw [wrap_i64] <;> omega
    have e1 : (0 ≤ ((x + 1 : Nat) : Int) ∧ ((x + 1 : Nat) : Int) ≤ ((36 : Nat) : Int)) := by omega
    have e2 : (0 ≤ ((x : Nat) : Int) ∧ ((x : Nat) : Int) ≤ ((x + 1 : Nat) : Int)) := by omega
    have e3 : List.take (x + 1 - x) (List.drop x digitsL) = dec x := by
      have : ∀ x, x < 10 → List.take (x + 1 - x) (List.drop x digitsL) = dec x := by decide
      exact this x hc
    (repeat refine Ex.assoc ?_); refine Ex.step (m := 0) (by simp (config := {decide := true}) only [RS, Nat.reduceAdd, g0, tStr, digitsL_eq, digitsL_len, w1, e1, e2, Int.toNat_natCast, e3]; rfl) ?_
    refine Ex.retS ⟨trivial, _, by simp (config := {decide := true}) only [RS, Nat.reduceAdd]; rfl, ?_, rfl⟩
    simp (config := {decide := true}) only [RS, Nat.reduceAdd]
  · have hc' : ¬ ((x : Nat) : Int) < 10 := by omega
    refine Ex.ifF (by simp (config := {decide := true}) only [RS, Nat.reduceAdd, g4, hc']) (Ex.skipS ?_)
    have w1 : IntKind.i64.wrap (((x : Nat) : Int) * 2) = ((x * 2 : Nat) : Int) := by rw [wrap_i64] <;> omega
    have w2 : IntKind.i64.wrap (((x * 2 : Nat) : Int) + 2) = ((x * 2 + 2 : Nat) : Int) := by rw [wrap_i64] <;> omega
    have e1 : (0 ≤ ((x * 2 + 2 : Nat) : Int) ∧ ((x * 2 + 2 : Nat) : Int) ≤ ((200 : Nat) : Int)) := by omega
    have e2 : (0 ≤ ((x * 2 : Nat) : Int) ∧ ((x * 2 : Nat) : Int) ≤ ((x * 2 + 2 : Nat) : Int)) := by omega
    have e3 : List.take (x * 2 + 2 - x * 2) (List.drop (x * 2) smallsL) = dec x := by
      have : ∀ x, x < 100 → 10 ≤ x → List.take (x * 2 + 2 - x * 2) (List.drop (x * 2) smallsL) = dec x := by decide
      exact this x hx (by omega)
    (repeat refine Ex.assoc ?_); refine Ex.step (m := 0) (by simp (config := {decide := true}) only [RS, Nat.reduceAdd, g0, tStr, smalls_eq, smalls_len, w1, w2, e1, e2, Int.toNat_natCast, e3]; rfl) ?_
    refine Ex.ret ⟨trivial, _, by simp (config := {decide := true}) only [RS, Nat.reduceAdd]; rfl, ?_, rfl⟩
    simp (config := {decide := true}) only [RS, Nat.reduceAdd]
end Go.Vk
set_option linter.unusedSimpArgs false
set_option linter.unusedVariables false
set_option maxRecDepth 100000
set_option maxHeartbeats 4000000
namespace Go.Vk
open Go.Proofs (Tryz.prog)
theorem tBy : Tryz.prog.underlying 262 = some (.slice 5) := by kernel_rfl
theorem eBy : elemT Tryz.prog 262 = some 5 := by kernel_rfl
theorem hU8 : hasT Tryz.prog 5 = true := by kernel_rfl
theorem sU8 : sizeT Tryz.prog 5 = 1 := by kernel_rfl
theorem aU8 : aggT Tryz.prog 5 = false := by kernel_rfl
/-- From place j on the digits are written; y is left. -/
def PadInv (k x j y : Nat) (out : List Nat) : Prop := out.length = 24 ∧ j ≤ k ∧ y = x / 10 ^ (k - j) ∧ (out.drop j).take (k - j) = pad (k - j) x
theorem PadInv.pair {k x j y r : Nat} {out : List Nat} (h : PadInv k x (j + 2) y out) (hk : k ≤ 24) (hr : r = y % 100) : PadInv k x j (y / 100) ((out.set (j + 1) (48 + r % 10)).set j (48 + r / 10)) := by
  obtain ⟨h1, h2, h3, h4⟩ := h
  refine ⟨by simpa using h1, by omega, ?_, ?_⟩
  · rw [h3, Nat.div_div_eq_div_mul, show (100 : Nat) = 10 ^ 2 by decide, ← Nat.pow_add]
    congr 2; omega
  · have := pair_inv (out := out) (k := k) (j := j) (x := x) (y := y) (by omega) (by omega) h3 h4
    rw [show r % 10 = y % 10 by omega, show r / 10 = y / 10 % 10 by omega]
    exact this
theorem fn_base10 : fnE Tryz.prog 256 = some ⟨(Go.Proofs.Tryz.f256.body).getD .skip, 167, []⟩ := by kernel_rfl
theorem base10_run {hk : Hooks} (B : BareS hk) {h : Hp} {bb k x : Nat} {out0 : List Nat} (hb : h.m.get bb = some (.row (u8s out0) false)) (hl : out0.length = 24) (hk9 : k ≤ 9) (hx : x < 10 ^ k) :
    ExF Tryz.prog hk 256 [.slice bb 0 k 24 true 1, .int .u64 x] h fun r' h1 => ∃ out, r' = .tup [] ∧ out.length = 24 ∧ out.take k = pad k x ∧ ∀ b, h1.m.get b = if b = bb then some (.row (u8s out) false) else h.m.get b := by
  refine ExF.body fn_base10 (B.base10 _ _) (by simp) ?_
  simp only [Go.Proofs.Tryz.f256, Option.getD_some]
  have hx9 : x < 1000000000 := by
    have : 10 ^ k ≤ 10 ^ 9 := Nat.pow_le_pow_right (by omega) hk9
    omega
  (repeat refine Ex.assoc ?_); refine Ex.step (m := 0) (by simp (config := {decide := true}) only [RS, Nat.reduceAdd, tBy, aLen]; rfl) ?_
  refine Ex.forget fun E hE => ?_; have k0 := hE 0; simp (config := {decide := true}) only [RS, Nat.reduceAdd] at k0; have k1 := hE 1; simp (config := {decide := true}) only [RS, Nat.reduceAdd] at k1; have k4 := hE 4; simp (config := {decide := true}) only [RS, Nat.reduceAdd] at k4; clear hE; have g0 := k0; clear k0; have g1 := k1; clear k1; have g4 := k4; clear k4
  (repeat refine Ex.assoc ?_)
  refine Ex.cut (fun env h' => ∃ (j y : Nat) (out : List Nat), j < 8 ∧ PadInv k x j y out ∧ env.get 0 = some (.slice bb 0 k 24 true 1) ∧ env.get 1 = some (.int .u64 y) ∧ env.get 4 = some (.int .i64 j) ∧ ∀ b, h'.m.get b = if b = bb then some (.row (u8s out) false) else h.m.get b) (Ex.block ?_) ?_
  · refine Ex.loop (fun j env h' => ∃ (y : Nat) (out : List Nat), PadInv k x j y out ∧ env.get 0 = some (.slice bb 0 k 24 true 1) ∧ env.get 1 = some (.int .u64 y) ∧ env.get 4 = some (.int .i64 j) ∧ ∀ b, h'.m.get b = if b = bb then some (.row (u8s out) false) else h.m.get b) ?_ k _ _ ?_
    · clear g0 g1 g4
      rintro j env h' ⟨y, out, hi, g0, g1, g4, hm⟩
      (repeat refine Ex.assoc ?_); refine Ex.step (m := 0) (by simp (config := {decide := true}) only [RS, Nat.reduceAdd, g4]; rfl) ?_
      refine Ex.forget fun E hE => ?_; have k0 := hE 0; simp (config := {decide := true}) only [RS, Nat.reduceAdd, g0, g1, g4] at k0; have k1 := hE 1; simp (config := {decide := true}) only [RS, Nat.reduceAdd, g0, g1, g4] at k1; have k4 := hE 4; simp (config := {decide := true}) only [RS, Nat.reduceAdd, g0, g1, g4] at k4; have k20 := hE 20; simp (config := {decide := true}) only [RS, Nat.reduceAdd, g0, g1, g4] at k20; clear hE g0 g1 g4; have g0 := k0; clear k0; have g1 := k1; clear k1; have g4 := k4; clear k4; have g20 := k20; clear k20
      by_cases hj : j ≥ 8
      · have hj' : ((j : Nat) : Int) ≥ 8 := by omega
        refine Ex.ifT (by simp (config := {decide := true}) only [RS, Nat.reduceAdd, g20, hj']) (Ex.skipS ?_)
        obtain ⟨i, rfl⟩ : ∃ i, j = i + 8 := ⟨j - 8, by omega⟩
        have hjk := hi.2.1
        have hyx : y ≤ x := by rw [hi.2.2.1]; exact Nat.div_le_self _ _
        refine Ex.block ?_
        have hnz1 : ¬ ((100000000 : Nat) : Int) = 0 := by omega
        have v1 : ((y : Nat) : Int).tmod 100000000 = ((y % 100000000 : Nat) : Int) := (Int.ofNat_tmod y 100000000).symm
        have v2 : IntKind.u32.wrap ((y % 100000000 : Nat) : Int) = ((y % 100000000 : Nat) : Int) := by rw [wrap_u32]; omega
        have v3 : IntKind.u64.wrap (((y : Nat) : Int).tdiv 100000000) = ((y / 100000000 : Nat) : Int) := quo_u64 (a := y) (b := 100000000) (by omega)
        (repeat refine Ex.assoc ?_); refine Ex.step (m := 0) (by simp (config := {decide := true}) only [RS, Nat.reduceAdd, g1, tU64, tU32, v1, v2]; rfl) ?_
        (repeat refine Ex.assoc ?_); refine Ex.step (m := 0) (by simp (config := {decide := true}) only [RS, Nat.reduceAdd, g1, v3]; rfl) ?_
        refine Ex.forget fun E hE => ?_; have k0 := hE 0; simp (config := {decide := true}) only [RS, Nat.reduceAdd, g0, g1, g4, g20] at k0; have k1 := hE 1; simp (config := {decide := true}) only [RS, Nat.reduceAdd, g0, g1, g4, g20] at k1; have k4 := hE 4; simp (config := {decide := true}) only [RS, Nat.reduceAdd, g0, g1, g4, g20] at k4; have k5 := hE 5; simp (config := {decide := true}) only [RS, Nat.reduceAdd, g0, g1, g4, g20] at k5; clear hE g0 g1 g4 g20; have g0 := k0; clear k0; have g1 := k1; clear k1; have g4 := k4; clear k4; have g5 := k5; clear k5
        obtain ⟨z, hz⟩ : ∃ z, z = y % 100000000 := ⟨_, rfl⟩
        rw [← hz] at g5
        have q32 : ∀ (a b : Nat), a < 4294967296 → IntKind.u32.wrap (((a : Nat) : Int).tdiv ((b : Nat) : Int)) = ((a / b : Nat) : Int) := fun a b ha => by
          rw [← Int.ofNat_tdiv, wrap_u32]
          have := Nat.div_le_self a b
          generalize a / b = q at *
          omega
        have v4 : IntKind.u32.wrap (((z : Nat) : Int).tdiv 10000) = ((z / 10000 : Nat) : Int) := q32 z 10000 (by omega)
        have v5 : ((z : Nat) : Int).tmod 10000 = ((z % 10000 : Nat) : Int) := (Int.ofNat_tmod z 10000).symm
        (repeat refine Ex.assoc ?_); refine Ex.step (m := 0) (by simp (config := {decide := true}) only [RS, Nat.reduceAdd, g5, v4, v5]; rfl) ?_
        refine Ex.forget fun E hE => ?_; have k0 := hE 0; simp (config := {decide := true}) only [RS, Nat.reduceAdd, g0, g1, g4, g5] at k0; have k1 := hE 1; simp (config := {decide := true}) only [RS, Nat.reduceAdd, g0, g1, g4, g5] at k1; have k4 := hE 4; simp (config := {decide := true}) only [RS, Nat.reduceAdd, g0, g1, g4, g5] at k4; have k6 := hE 6; simp (config := {decide := true}) only [RS, Nat.reduceAdd, g0, g1, g4, g5] at k6; have k7 := hE 7; simp (config := {decide := true}) only [RS, Nat.reduceAdd, g0, g1, g4, g5] at k7; clear hE g0 g1 g4 g5; have g0 := k0; clear k0; have g1 := k1; clear k1; have g4 := k4; clear k4; have g6 := k6; clear k6; have g7 := k7; clear k7
        have hm2 : ∀ r : Nat, r < 1000 → IntKind.u32.wrap (((r : Nat) : Int) * 2) = ((2 * r : Nat) : Int) := fun r hr => by rw [wrap_u32]; omega
        obtain ⟨r9, hr9⟩ : ∃ r, r = z % 10000 % 100 := ⟨_, rfl⟩
        obtain ⟨r8, hr8⟩ : ∃ r, r = z % 10000 / 100 := ⟨_, rfl⟩
        obtain ⟨r11, hr11⟩ : ∃ r, r = z / 10000 % 100 := ⟨_, rfl⟩
        obtain ⟨r10, hr10⟩ : ∃ r, r = z / 10000 / 100 := ⟨_, rfl⟩
        have v6 : IntKind.u32.wrap (((z % 10000 : Nat) : Int).tdiv 100) = ((r8 : Nat) : Int) := by rw [hr8]; exact q32 (z % 10000) 100 (by omega)
        have v7 : ((z % 10000 : Nat) : Int).tmod 100 = ((r9 : Nat) : Int) := by rw [hr9]; exact (Int.ofNat_tmod _ 100).symm
        have v8 : IntKind.u32.wrap (((z / 10000 : Nat) : Int).tdiv 100) = ((r10 : Nat) : Int) := by rw [hr10]; exact q32 (z / 10000) 100 (by omega)
        have v9 : ((z / 10000 : Nat) : Int).tmod 100 = ((r11 : Nat) : Int) := by rw [hr11]; exact (Int.ofNat_tmod _ 100).symm
        (repeat refine Ex.assoc ?_); refine Ex.step (m := 0) (by simp (config := {decide := true}) only [RS, Nat.reduceAdd, g7, v6, v7, hm2 r8 (by omega), hm2 r9 (by omega)]; rfl) ?_
        refine Ex.forget fun E hE => ?_; have k0 := hE 0; simp (config := {decide := true}) only [RS, Nat.reduceAdd, g0, g1, g4, g6, g7] at k0; have k1 := hE 1; simp (config := {decide := true}) only [RS, Nat.reduceAdd, g0, g1, g4, g6, g7] at k1; have k4 := hE 4; simp (config := {decide := true}) only [RS, Nat.reduceAdd, g0, g1, g4, g6, g7] at k4; have k6 := hE 6; simp (config := {decide := true}) only [RS, Nat.reduceAdd, g0, g1, g4, g6, g7] at k6; have k8 := hE 8; simp (config := {decide := true}) only [RS, Nat.reduceAdd, g0, g1, g4, g6, g7] at k8; have k9 := hE 9; simp (config := {decide := true}) only [RS, Nat.reduceAdd, g0, g1, g4, g6, g7] at k9; clear hE g0 g1 g4 g6 g7; have g0 := k0; clear k0; have g1 := k1; clear k1; have g4 := k4; clear k4; have g6 := k6; clear k6; have g8 := k8; clear k8; have g9 := k9; clear k9
        (repeat refine Ex.assoc ?_); refine Ex.step (m := 0) (by simp (config := {decide := true}) only [RS, Nat.reduceAdd, g6, v8, v9, hm2 r10 (by omega), hm2 r11 (by omega)]; rfl) ?_
        refine Ex.forget fun E hE => ?_; have k0 := hE 0; simp (config := {decide := true}) only [RS, Nat.reduceAdd, g0, g1, g4, g6, g8, g9] at k0; have k1 := hE 1; simp (config := {decide := true}) only [RS, Nat.reduceAdd, g0, g1, g4, g6, g8, g9] at k1; have k4 := hE 4; simp (config := {decide := true}) only [RS, Nat.reduceAdd, g0, g1, g4, g6, g8, g9] at k4; have k8 := hE 8; simp (config := {decide := true}) only [RS, Nat.reduceAdd, g0, g1, g4, g6, g8, g9] at k8; have k9 := hE 9; simp (config := {decide := true}) only [RS, Nat.reduceAdd, g0, g1, g4, g6, g8, g9] at k9; have k10 := hE 10; simp (config := {decide := true}) only [RS, Nat.reduceAdd, g0, g1, g4, g6, g8, g9] at k10; have k11 := hE 11; simp (config := {decide := true}) only [RS, Nat.reduceAdd, g0, g1, g4, g6, g8, g9] at k11; clear hE g0 g1 g4 g6 g8 g9; have g0 := k0; clear k0; have g1 := k1; clear k1; have g4 := k4; clear k4; have g8 := k8; clear k8; have g9 := k9; clear k9; have g10 := k10; clear k10; have g11 := k11; clear k11
        have hmh' := hm
        have hbha : h'.m.get bb = some (.row (u8s out) false) := by rw [hmh', if_pos rfl]
        have olha := hi.1
        have loha := smalls_lo (r := r9) (by omega)
        have hiha := smalls_hi (r := r9) (by omega)
        have wha : IntKind.u32.wrap (((2 * r9 : Nat) : Int) + 1) = ((2 * r9 + 1 : Nat) : Int) := by rw [wrap_u32]; omega
        have n1ha : 0 ≤ ((2 * r9 + 1 : Nat) : Int) := by omega
        have n2ha : 0 ≤ ((2 * r9 : Nat) : Int) := by omega
        have d1ha : IntKind.i64.wrap (((i + 8 : Nat) : Int) - 1) = ((i + 7 : Nat) : Int) := by rw [wrap_i64] <;> omega
        have d2ha : IntKind.i64.wrap (((i + 8 : Nat) : Int) - 2) = ((i + 6 : Nat) : Int) := by rw [wrap_i64] <;> omega
        have e1ha : (0 ≤ ((i + 7 : Nat) : Int) ∧ ((i + 7 : Nat) : Int) < ((k : Nat) : Int)) := by omega
        have e2ha : (0 ≤ ((i + 6 : Nat) : Int) ∧ ((i + 6 : Nat) : Int) < ((k : Nat) : Int)) := by omega
        have p1ha := fun nx => putCells_u8 (h := ⟨h'.m, nx⟩) hbha (i := i + 7) (x := 48 + r9 % 10) (by omega)
        have p2ha := fun nx => putCells_u8 (h := ⟨h'.m.set bb (.row (u8s (out.set (i + 7) (48 + r9 % 10))) false), nx⟩) (ob := bb) (out := out.set (i + 7) (48 + r9 % 10)) (by simp only [PT.get_set, if_true]) (i := i + 6) (x := 48 + r9 / 10) (by simp; omega)
        (repeat refine Ex.assoc ?_); refine Ex.step (m := 0) (by rw [drawR (B := [0, 0, 2, 0, 0, 16, 0, 64, 192, 0, 512, 455, 2503, 8191, 16383]) (ord := [0, 1, 2, 6, 7, 8, 11, 12, 3, 4, 5, 9, 10, 13, 14]) (by kernel_rfl) (by kernel_rfl) (by kernel_rfl)]; simp (config := {decide := true}) only [RS, Nat.reduceAdd, drawOps, drawStep, readOk, readsA, segsOk, blkOk, Bool.true_or, Bool.or_true, AV.beqL_refl, g0, g4, g9, tBy, tStr, tU8, hU8, sU8, aU8, smalls_eq, loha, hiha, wha, n1ha, n2ha, d1ha, d2ha, e1ha, e2ha, Int.toNat_natCast, p1ha, p2ha]; rfl) ?_
        refine Ex.forget2 fun E ha hE ha_m ha_x => ?_; have k0 := hE 0; simp (config := {decide := true}) only [RS, Nat.reduceAdd, g0, g1, g4, g8, g9, g10, g11] at k0; have k1 := hE 1; simp (config := {decide := true}) only [RS, Nat.reduceAdd, g0, g1, g4, g8, g9, g10, g11] at k1; have k4 := hE 4; simp (config := {decide := true}) only [RS, Nat.reduceAdd, g0, g1, g4, g8, g9, g10, g11] at k4; have k8 := hE 8; simp (config := {decide := true}) only [RS, Nat.reduceAdd, g0, g1, g4, g8, g9, g10, g11] at k8; have k10 := hE 10; simp (config := {decide := true}) only [RS, Nat.reduceAdd, g0, g1, g4, g8, g9, g10, g11] at k10; have k11 := hE 11; simp (config := {decide := true}) only [RS, Nat.reduceAdd, g0, g1, g4, g8, g9, g10, g11] at k11; clear hE g0 g1 g4 g8 g9 g10 g11; have g0 := k0; clear k0; have g1 := k1; clear k1; have g4 := k4; clear k4; have g8 := k8; clear k8; have g10 := k10; clear k10; have g11 := k11; clear k11; dsimp only at ha_m ha_x
        have i1 := PadInv.pair (r := r9) (hi : PadInv k x (i + 6 + 2) _ _) (by omega) (by omega)
        obtain ⟨o1, eo1⟩ : ∃ o, o = (out.set (i + 7) (48 + r9 % 10)).set (i + 6) (48 + r9 / 10) := ⟨_, rfl⟩
        rw [← eo1] at i1
        have hmha : ∀ b, ha.m.get b = if b = bb then some (.row (u8s o1) false) else h.m.get b := fun b => by
          rw [ha_m, eo1]
          simp only [PT.get_set, hmh']
          split <;> rfl
        have hbhbb : ha.m.get bb = some (.row (u8s o1) false) := by rw [hmha, if_pos rfl]
        have olhbb := i1.1
        have lohbb := smalls_lo (r := r8) (by omega)
        have hihbb := smalls_hi (r := r8) (by omega)
        have whbb : IntKind.u32.wrap (((2 * r8 : Nat) : Int) + 1) = ((2 * r8 + 1 : Nat) : Int) := by rw [wrap_u32]; omega
        have n1hbb : 0 ≤ ((2 * r8 + 1 : Nat) : Int) := by omega
        have n2hbb : 0 ≤ ((2 * r8 : Nat) : Int) := by omega
        have d1hbb : IntKind.i64.wrap (((i + 8 : Nat) : Int) - 3) = ((i + 5 : Nat) : Int) := by rw [wrap_i64] <;> omega
        have d2hbb : IntKind.i64.wrap (((i + 8 : Nat) : Int) - 4) = ((i + 4 : Nat) : Int) := by rw [wrap_i64] <;> omega
        have e1hbb : (0 ≤ ((i + 5 : Nat) : Int) ∧ ((i + 5 : Nat) : Int) < ((k : Nat) : Int)) := by omega
        have e2hbb : (0 ≤ ((i + 4 : Nat) : Int) ∧ ((i + 4 : Nat) : Int) < ((k : Nat) : Int)) := by omega
        have p1hbb := fun nx => putCells_u8 (h := ⟨ha.m, nx⟩) hbhbb (i := i + 5) (x := 48 + r8 % 10) (by omega)
        have p2hbb := fun nx => putCells_u8 (h := ⟨ha.m.set bb (.row (u8s (o1.set (i + 5) (48 + r8 % 10))) false), nx⟩) (ob := bb) (out := o1.set (i + 5) (48 + r8 % 10)) (by simp only [PT.get_set, if_true]) (i := i + 4) (x := 48 + r8 / 10) (by simp; omega)
        (repeat refine Ex.assoc ?_); refine Ex.step (m := 0) (by rw [drawR (B := [0, 0, 2, 0, 0, 16, 0, 64, 192, 0, 512, 455, 2503, 8191, 16383]) (ord := [0, 1, 2, 6, 7, 8, 11, 12, 3, 4, 5, 9, 10, 13, 14]) (by kernel_rfl) (by kernel_rfl) (by kernel_rfl)]; simp (config := {decide := true}) only [RS, Nat.reduceAdd, drawOps, drawStep, readOk, readsA, segsOk, blkOk, Bool.true_or, Bool.or_true, AV.beqL_refl, g0, g4, g8, tBy, tStr, tU8, hU8, sU8, aU8, smalls_eq, lohbb, hihbb, whbb, n1hbb, n2hbb, d1hbb, d2hbb, e1hbb, e2hbb, Int.toNat_natCast, p1hbb, p2hbb]; rfl) ?_
        refine Ex.forget2 fun E hbb hE hbb_m hbb_x => ?_; have k0 := hE 0; simp (config := {decide := true}) only [RS, Nat.reduceAdd, g0, g1, g4, g8, g10, g11] at k0; have k1 := hE 1; simp (config := {decide := true}) only [RS, Nat.reduceAdd, g0, g1, g4, g8, g10, g11] at k1; have k4 := hE 4; simp (config := {decide := true}) only [RS, Nat.reduceAdd, g0, g1, g4, g8, g10, g11] at k4; have k10 := hE 10; simp (config := {decide := true}) only [RS, Nat.reduceAdd, g0, g1, g4, g8, g10, g11] at k10; have k11 := hE 11; simp (config := {decide := true}) only [RS, Nat.reduceAdd, g0, g1, g4, g8, g10, g11] at k11; clear hE g0 g1 g4 g8 g10 g11; have g0 := k0; clear k0; have g1 := k1; clear k1; have g4 := k4; clear k4; have g10 := k10; clear k10; have g11 := k11; clear k11; dsimp only at hbb_m hbb_x
        have i2 := PadInv.pair (r := r8) (i1 : PadInv k x (i + 4 + 2) _ _) (by omega) (by omega)
        obtain ⟨o2, eo2⟩ : ∃ o, o = (o1.set (i + 5) (48 + r8 % 10)).set (i + 4) (48 + r8 / 10) := ⟨_, rfl⟩
        rw [← eo2] at i2
        have hmhbb : ∀ b, hbb.m.get b = if b = bb then some (.row (u8s o2) false) else h.m.get b := fun b => by
          rw [hbb_m, eo2]
          simp only [PT.get_set, hmha]
          split <;> rfl
        have hbhc : hbb.m.get bb = some (.row (u8s o2) false) := by rw [hmhbb, if_pos rfl]
        have olhc := i2.1
        have lohc := smalls_lo (r := r11) (by omega)
        have hihc := smalls_hi (r := r11) (by omega)
        have whc : IntKind.u32.wrap (((2 * r11 : Nat) : Int) + 1) = ((2 * r11 + 1 : Nat) : Int) := by rw [wrap_u32]; omega
        have n1hc : 0 ≤ ((2 * r11 + 1 : Nat) : Int) := by omega
        have n2hc : 0 ≤ ((2 * r11 : Nat) : Int) := by omega
        have d1hc : IntKind.i64.wrap (((i + 8 : Nat) : Int) - 5) = ((i + 3 : Nat) : Int) := by rw [wrap_i64] <;> omega
        have d2hc : IntKind.i64.wrap (((i + 8 : Nat) : Int) - 6) = ((i + 2 : Nat) : Int) := by rw [wrap_i64] <;> omega
        have e1hc : (0 ≤ ((i + 3 : Nat) : Int) ∧ ((i + 3 : Nat) : Int) < ((k : Nat) : Int)) := by omega
        have e2hc : (0 ≤ ((i + 2 : Nat) : Int) ∧ ((i + 2 : Nat) : Int) < ((k : Nat) : Int)) := by omega
        have p1hc := fun nx => putCells_u8 (h := ⟨hbb.m, nx⟩) hbhc (i := i + 3) (x := 48 + r11 % 10) (by omega)
        have p2hc := fun nx => putCells_u8 (h := ⟨hbb.m.set bb (.row (u8s (o2.set (i + 3) (48 + r11 % 10))) false), nx⟩) (ob := bb) (out := o2.set (i + 3) (48 + r11 % 10)) (by simp only [PT.get_set, if_true]) (i := i + 2) (x := 48 + r11 / 10) (by simp; omega)
        (repeat refine Ex.assoc ?_); refine Ex.step (m := 0) (by rw [drawR (B := [0, 0, 2, 0, 0, 16, 0, 64, 192, 0, 512, 455, 2503, 8191, 16383]) (ord := [0, 1, 2, 6, 7, 8, 11, 12, 3, 4, 5, 9, 10, 13, 14]) (by kernel_rfl) (by kernel_rfl) (by kernel_rfl)]; simp (config := {decide := true}) only [RS, Nat.reduceAdd, drawOps, drawStep, readOk, readsA, segsOk, blkOk, Bool.true_or, Bool.or_true, AV.beqL_refl, g0, g4, g11, tBy, tStr, tU8, hU8, sU8, aU8, smalls_eq, lohc, hihc, whc, n1hc, n2hc, d1hc, d2hc, e1hc, e2hc, Int.toNat_natCast, p1hc, p2hc]; rfl) ?_
        refine Ex.forget2 fun E hc hE hc_m hc_x => ?_; have k0 := hE 0; simp (config := {decide := true}) only [RS, Nat.reduceAdd, g0, g1, g4, g10, g11] at k0; have k1 := hE 1; simp (config := {decide := true}) only [RS, Nat.reduceAdd, g0, g1, g4, g10, g11] at k1; have k4 := hE 4; simp (config := {decide := true}) only [RS, Nat.reduceAdd, g0, g1, g4, g10, g11] at k4; have k10 := hE 10; simp (config := {decide := true}) only [RS, Nat.reduceAdd, g0, g1, g4, g10, g11] at k10; clear hE g0 g1 g4 g10 g11; have g0 := k0; clear k0; have g1 := k1; clear k1; have g4 := k4; clear k4; have g10 := k10; clear k10; dsimp only at hc_m hc_x
        have i3 := PadInv.pair (r := r11) (i2 : PadInv k x (i + 2 + 2) _ _) (by omega) (by omega)
        obtain ⟨o3, eo3⟩ : ∃ o, o = (o2.set (i + 3) (48 + r11 % 10)).set (i + 2) (48 + r11 / 10) := ⟨_, rfl⟩
        rw [← eo3] at i3
        have hmhc : ∀ b, hc.m.get b = if b = bb then some (.row (u8s o3) false) else h.m.get b := fun b => by
          rw [hc_m, eo3]
          simp only [PT.get_set, hmhbb]
          split <;> rfl
        have hbhd : hc.m.get bb = some (.row (u8s o3) false) := by rw [hmhc, if_pos rfl]
        have olhd := i3.1
        have lohd := smalls_lo (r := r10) (by omega)
        have hihd := smalls_hi (r := r10) (by omega)
        have whd : IntKind.u32.wrap (((2 * r10 : Nat) : Int) + 1) = ((2 * r10 + 1 : Nat) : Int) := by rw [wrap_u32]; omega
        have n1hd : 0 ≤ ((2 * r10 + 1 : Nat) : Int) := by omega
        have n2hd : 0 ≤ ((2 * r10 : Nat) : Int) := by omega
        have d1hd : IntKind.i64.wrap (((i + 8 : Nat) : Int) - 7) = ((i + 1 : Nat) : Int) := by rw [wrap_i64] <;> omega
        have d2hd : IntKind.i64.wrap (((i + 8 : Nat) : Int) - 8) = ((i : Nat) : Int) := by rw [wrap_i64] <;> omega
        have e1hd : (0 ≤ ((i + 1 : Nat) : Int) ∧ ((i + 1 : Nat) : Int) < ((k : Nat) : Int)) := by omega
        have e2hd : (0 ≤ ((i : Nat) : Int) ∧ ((i : Nat) : Int) < ((k : Nat) : Int)) := by omega
        have p1hd := fun nx => putCells_u8 (h := ⟨hc.m, nx⟩) hbhd (i := i + 1) (x := 48 + r10 % 10) (by omega)
        have p2hd := fun nx => putCells_u8 (h := ⟨hc.m.set bb (.row (u8s (o3.set (i + 1) (48 + r10 % 10))) false), nx⟩) (ob := bb) (out := o3.set (i + 1) (48 + r10 % 10)) (by simp only [PT.get_set, if_true]) (i := i) (x := 48 + r10 / 10) (by simp; omega)
        (repeat refine Ex.assoc ?_); refine Ex.step (m := 0) (by rw [drawR (B := [0, 0, 2, 0, 0, 16, 0, 64, 192, 0, 512, 455, 2503, 8191, 16383]) (ord := [0, 1, 2, 6, 7, 8, 11, 12, 3, 4, 5, 9, 10, 13, 14]) (by kernel_rfl) (by kernel_rfl) (by kernel_rfl)]; simp (config := {decide := true}) only [RS, Nat.reduceAdd, drawOps, drawStep, readOk, readsA, segsOk, blkOk, Bool.true_or, Bool.or_true, AV.beqL_refl, g0, g4, g10, tBy, tStr, tU8, hU8, sU8, aU8, smalls_eq, lohd, hihd, whd, n1hd, n2hd, d1hd, d2hd, e1hd, e2hd, Int.toNat_natCast, p1hd, p2hd]; rfl) ?_
        refine Ex.forget2 fun E hd hE hd_m hd_x => ?_; have k0 := hE 0; simp (config := {decide := true}) only [RS, Nat.reduceAdd, g0, g1, g4, g10] at k0; have k1 := hE 1; simp (config := {decide := true}) only [RS, Nat.reduceAdd, g0, g1, g4, g10] at k1; have k4 := hE 4; simp (config := {decide := true}) only [RS, Nat.reduceAdd, g0, g1, g4, g10] at k4; clear hE g0 g1 g4 g10; have g0 := k0; clear k0; have g1 := k1; clear k1; have g4 := k4; clear k4; dsimp only at hd_m hd_x
        have i4 := PadInv.pair (r := r10) (i3 : PadInv k x (i + 2) _ _) (by omega) (by omega)
        obtain ⟨o4, eo4⟩ : ∃ o, o = (o3.set (i + 1) (48 + r10 % 10)).set (i) (48 + r10 / 10) := ⟨_, rfl⟩
        rw [← eo4] at i4
        have hmhd : ∀ b, hd.m.get b = if b = bb then some (.row (u8s o4) false) else h.m.get b := fun b => by
          rw [hd_m, eo4]
          simp only [PT.get_set, hmhc]
          split <;> rfl
        have d8 : IntKind.i64.wrap (((i + 8 : Nat) : Int) - 8) = ((i : Nat) : Int) := by rw [wrap_i64] <;> omega
        refine Ex.last (m := 0) (by simp (config := {decide := true}) only [RS, Nat.reduceAdd, g4, d8]; rfl) ?_
        simp (config := {decide := true}) only [thenK, blockK, ite_true, ite_false, if_true, if_false]
        refine ⟨i, by omega, y / 100000000, o4, ?_, by simp (config := {decide := true}) only [RS, Nat.reduceAdd, g0], by simp (config := {decide := true}) only [RS, Nat.reduceAdd, g1], by simp (config := {decide := true}) only [RS, Nat.reduceAdd], hmhd⟩
        rw [show y / 100000000 = y / 100 / 100 / 100 / 100 by omega]
        exact i4
      · have hj' : ¬ ((j : Nat) : Int) ≥ 8 := by omega
        refine Ex.ifF (by simp (config := {decide := true}) only [RS, Nat.reduceAdd, g20, hj']) (Ex.exitS ?_)
        simp (config := {decide := true}) only [thenK, blockK, ite_true, ite_false, if_true, if_false]
        exact ⟨j, y, out, by omega, hi, g0, g1, g4, hm⟩
    · exact ⟨x, out0, ⟨hl, Nat.le_refl _, by simp, by simp [pad]⟩, g0, g1, g4, fun b => by
        by_cases e : b = bb
        · rw [if_pos e, e]; exact hb
        · rw [if_neg e]⟩
  clear g0 g1 g4
  rintro env h' ⟨j, y, out, hj, hi, g0, g1, g4, hmh'⟩
  have hjk := hi.2.1
  have hyx : y ≤ x := by rw [hi.2.2.1]; exact Nat.div_le_self _ _
  have hyj : y < 10 ^ j := by
    rw [hi.2.2.1, Nat.div_lt_iff_lt_mul (Nat.pow_pos (by omega)), ← Nat.pow_add, show j + (k - j) = k by omega]
    exact hx
  have v1 : IntKind.u32.wrap ((y : Nat) : Int) = (y : Nat) := by rw [wrap_u32]; omega
  have q32 : ∀ (a b : Nat), a < 4294967296 → IntKind.u32.wrap (((a : Nat) : Int).tdiv ((b : Nat) : Int)) = ((a / b : Nat) : Int) := fun a b ha => by
    rw [← Int.ofNat_tdiv, wrap_u32]
    have := Nat.div_le_self a b
    generalize a / b = q at *
    omega
  have hm2 : ∀ r : Nat, r < 1000 → IntKind.u32.wrap (((r : Nat) : Int) * 2) = ((2 * r : Nat) : Int) := fun r hr => by rw [wrap_u32]; omega
  (repeat refine Ex.assoc ?_); refine Ex.step (m := 0) (by simp (config := {decide := true}) only [RS, Nat.reduceAdd, g1, tU64, tU32, v1]; rfl) ?_
  (repeat refine Ex.assoc ?_); refine Ex.step (m := 0) (by simp (config := {decide := true}) only [RS, Nat.reduceAdd, g4]; rfl) ?_
  refine Ex.forget fun E hE => ?_; have k0 := hE 0; simp (config := {decide := true}) only [RS, Nat.reduceAdd, g0, g1, g4] at k0; have k4 := hE 4; simp (config := {decide := true}) only [RS, Nat.reduceAdd, g0, g1, g4] at k4; have k12 := hE 12; simp (config := {decide := true}) only [RS, Nat.reduceAdd, g0, g1, g4] at k12; have k99 := hE 99; simp (config := {decide := true}) only [RS, Nat.reduceAdd, g0, g1, g4] at k99; clear hE g0 g1 g4; have g0 := k0; clear k0; have g4 := k4; clear k4; have g12 := k12; clear k12; have g99 := k99; clear k99
  -- four digits
  (repeat refine Ex.assoc ?_)
  refine Ex.cut (fun env h' => ∃ (j y : Nat) (out : List Nat), j < 4 ∧ y < 10 ^ j ∧ y ≤ x ∧ PadInv k x j y out ∧ env.get 0 = some (.slice bb 0 k 24 true 1) ∧ env.get 12 = some (.int .u32 y) ∧ env.get 4 = some (.int .i64 j) ∧ ∀ b, h'.m.get b = if b = bb then some (.row (u8s out) false) else h.m.get b) ?_ ?_
  · by_cases hj4 : j ≥ 4
    · have hj' : ((j : Nat) : Int) ≥ 4 := by omega
      refine Ex.cond_true (by simp (config := {decide := true}) only [RS, Nat.reduceAdd, g99, hj']) ?_
      obtain ⟨i, rfl⟩ : ∃ i, j = i + 4 := ⟨j - 4, by omega⟩
      have u1 : ((y : Nat) : Int).tmod 10000 = ((y % 10000 : Nat) : Int) := (Int.ofNat_tmod y 10000).symm
      have u2 : IntKind.u32.wrap (((y : Nat) : Int).tdiv 10000) = ((y / 10000 : Nat) : Int) := q32 y 10000 (by omega)
      (repeat refine Ex.assoc ?_); refine Ex.step (m := 0) (by simp (config := {decide := true}) only [RS, Nat.reduceAdd, g12, u1]; rfl) ?_
      (repeat refine Ex.assoc ?_); refine Ex.step (m := 0) (by simp (config := {decide := true}) only [RS, Nat.reduceAdd, g12, u2]; rfl) ?_
      refine Ex.forget fun E hE => ?_; have k0 := hE 0; simp (config := {decide := true}) only [RS, Nat.reduceAdd, g0, g4, g12, g99] at k0; have k4 := hE 4; simp (config := {decide := true}) only [RS, Nat.reduceAdd, g0, g4, g12, g99] at k4; have k12 := hE 12; simp (config := {decide := true}) only [RS, Nat.reduceAdd, g0, g4, g12, g99] at k12; have k13 := hE 13; simp (config := {decide := true}) only [RS, Nat.reduceAdd, g0, g4, g12, g99] at k13; clear hE g0 g4 g12 g99; have g0 := k0; clear k0; have g4 := k4; clear k4; have g12 := k12; clear k12; have g13 := k13; clear k13
      obtain ⟨r15, hr15⟩ : ∃ r, r = y % 10000 % 100 := ⟨_, rfl⟩
      obtain ⟨r14, hr14⟩ : ∃ r, r = y % 10000 / 100 := ⟨_, rfl⟩
      have u3 : IntKind.u32.wrap (((y % 10000 : Nat) : Int).tdiv 100) = ((r14 : Nat) : Int) := by rw [hr14]; exact q32 (y % 10000) 100 (by omega)
      have u4 : ((y % 10000 : Nat) : Int).tmod 100 = ((r15 : Nat) : Int) := by rw [hr15]; exact (Int.ofNat_tmod _ 100).symm
      (repeat refine Ex.assoc ?_); refine Ex.step (m := 0) (by simp (config := {decide := true}) only [RS, Nat.reduceAdd, g13, u3, u4, hm2 r14 (by omega), hm2 r15 (by omega)]; rfl) ?_
      refine Ex.forget fun E hE => ?_; have k0 := hE 0; simp (config := {decide := true}) only [RS, Nat.reduceAdd, g0, g4, g12, g13] at k0; have k4 := hE 4; simp (config := {decide := true}) only [RS, Nat.reduceAdd, g0, g4, g12, g13] at k4; have k12 := hE 12; simp (config := {decide := true}) only [RS, Nat.reduceAdd, g0, g4, g12, g13] at k12; have k14 := hE 14; simp (config := {decide := true}) only [RS, Nat.reduceAdd, g0, g4, g12, g13] at k14; have k15 := hE 15; simp (config := {decide := true}) only [RS, Nat.reduceAdd, g0, g4, g12, g13] at k15; clear hE g0 g4 g12 g13; have g0 := k0; clear k0; have g4 := k4; clear k4; have g12 := k12; clear k12; have g14 := k14; clear k14; have g15 := k15; clear k15
      have hbha : h'.m.get bb = some (.row (u8s out) false) := by rw [hmh', if_pos rfl]
      have olha := hi.1
      have loha := smalls_lo (r := r15) (by omega)
      have hiha := smalls_hi (r := r15) (by omega)
      have wha : IntKind.u32.wrap (((2 * r15 : Nat) : Int) + 1) = ((2 * r15 + 1 : Nat) : Int) := by rw [wrap_u32]; omega
      have n1ha : 0 ≤ ((2 * r15 + 1 : Nat) : Int) := by omega
      have n2ha : 0 ≤ ((2 * r15 : Nat) : Int) := by omega
      have d1ha : IntKind.i64.wrap (((i + 4 : Nat) : Int) - 1) = ((i + 3 : Nat) : Int) := by rw [wrap_i64] <;> omega
      have d2ha : IntKind.i64.wrap (((i + 4 : Nat) : Int) - 2) = ((i + 2 : Nat) : Int) := by rw [wrap_i64] <;> omega
      have e1ha : (0 ≤ ((i + 3 : Nat) : Int) ∧ ((i + 3 : Nat) : Int) < ((k : Nat) : Int)) := by omega
      have e2ha : (0 ≤ ((i + 2 : Nat) : Int) ∧ ((i + 2 : Nat) : Int) < ((k : Nat) : Int)) := by omega
      have p1ha := fun nx => putCells_u8 (h := ⟨h'.m, nx⟩) hbha (i := i + 3) (x := 48 + r15 % 10) (by omega)
      have p2ha := fun nx => putCells_u8 (h := ⟨h'.m.set bb (.row (u8s (out.set (i + 3) (48 + r15 % 10))) false), nx⟩) (ob := bb) (out := out.set (i + 3) (48 + r15 % 10)) (by simp only [PT.get_set, if_true]) (i := i + 2) (x := 48 + r15 / 10) (by simp; omega)
      (repeat refine Ex.assoc ?_); refine Ex.step (m := 0) (by rw [drawR (B := [0, 0, 2, 0, 0, 16, 0, 64, 192, 0, 512, 455, 2503, 8191, 16383]) (ord := [0, 1, 2, 6, 7, 8, 11, 12, 3, 4, 5, 9, 10, 13, 14]) (by kernel_rfl) (by kernel_rfl) (by kernel_rfl)]; simp (config := {decide := true}) only [RS, Nat.reduceAdd, drawOps, drawStep, readOk, readsA, segsOk, blkOk, Bool.true_or, Bool.or_true, AV.beqL_refl, g0, g4, g15, tBy, tStr, tU8, hU8, sU8, aU8, smalls_eq, loha, hiha, wha, n1ha, n2ha, d1ha, d2ha, e1ha, e2ha, Int.toNat_natCast, p1ha, p2ha]; rfl) ?_
      refine Ex.forget2 fun E ha hE ha_m ha_x => ?_; have k0 := hE 0; simp (config := {decide := true}) only [RS, Nat.reduceAdd, g0, g4, g12, g14, g15] at k0; have k4 := hE 4; simp (config := {decide := true}) only [RS, Nat.reduceAdd, g0, g4, g12, g14, g15] at k4; have k12 := hE 12; simp (config := {decide := true}) only [RS, Nat.reduceAdd, g0, g4, g12, g14, g15] at k12; have k14 := hE 14; simp (config := {decide := true}) only [RS, Nat.reduceAdd, g0, g4, g12, g14, g15] at k14; clear hE g0 g4 g12 g14 g15; have g0 := k0; clear k0; have g4 := k4; clear k4; have g12 := k12; clear k12; have g14 := k14; clear k14; dsimp only at ha_m ha_x
      have i1 := PadInv.pair (r := r15) (hi : PadInv k x (i + 2 + 2) _ _) (by omega) (by omega)
      obtain ⟨o1, eo1⟩ : ∃ o, o = (out.set (i + 3) (48 + r15 % 10)).set (i + 2) (48 + r15 / 10) := ⟨_, rfl⟩
      rw [← eo1] at i1
      have hmha : ∀ b, ha.m.get b = if b = bb then some (.row (u8s o1) false) else h.m.get b := fun b => by
        rw [ha_m, eo1]
        simp only [PT.get_set, hmh']
        split <;> rfl
      have hbhbb : ha.m.get bb = some (.row (u8s o1) false) := by rw [hmha, if_pos rfl]
      have olhbb := i1.1
      have lohbb := smalls_lo (r := r14) (by omega)
      have hihbb := smalls_hi (r := r14) (by omega)
      have whbb : IntKind.u32.wrap (((2 * r14 : Nat) : Int) + 1) = ((2 * r14 + 1 : Nat) : Int) := by rw [wrap_u32]; omega
      have n1hbb : 0 ≤ ((2 * r14 + 1 : Nat) : Int) := by omega
      have n2hbb : 0 ≤ ((2 * r14 : Nat) : Int) := by omega
      have d1hbb : IntKind.i64.wrap (((i + 4 : Nat) : Int) - 3) = ((i + 1 : Nat) : Int) := by rw [wrap_i64] <;> omega
      have d2hbb : IntKind.i64.wrap (((i + 4 : Nat) : Int) - 4) = ((i : Nat) : Int) := by rw [wrap_i64] <;> omega
      have e1hbb : (0 ≤ ((i + 1 : Nat) : Int) ∧ ((i + 1 : Nat) : Int) < ((k : Nat) : Int)) := by omega
      have e2hbb : (0 ≤ ((i : Nat) : Int) ∧ ((i : Nat) : Int) < ((k : Nat) : Int)) := by omega
      have p1hbb := fun nx => putCells_u8 (h := ⟨ha.m, nx⟩) hbhbb (i := i + 1) (x := 48 + r14 % 10) (by omega)
      have p2hbb := fun nx => putCells_u8 (h := ⟨ha.m.set bb (.row (u8s (o1.set (i + 1) (48 + r14 % 10))) false), nx⟩) (ob := bb) (out := o1.set (i + 1) (48 + r14 % 10)) (by simp only [PT.get_set, if_true]) (i := i) (x := 48 + r14 / 10) (by simp; omega)
      (repeat refine Ex.assoc ?_); refine Ex.step (m := 0) (by rw [drawR (B := [0, 0, 2, 0, 0, 16, 0, 64, 192, 0, 512, 455, 2503, 8191, 16383]) (ord := [0, 1, 2, 6, 7, 8, 11, 12, 3, 4, 5, 9, 10, 13, 14]) (by kernel_rfl) (by kernel_rfl) (by kernel_rfl)]; simp (config := {decide := true}) only [RS, Nat.reduceAdd, drawOps, drawStep, readOk, readsA, segsOk, blkOk, Bool.true_or, Bool.or_true, AV.beqL_refl, g0, g4, g14, tBy, tStr, tU8, hU8, sU8, aU8, smalls_eq, lohbb, hihbb, whbb, n1hbb, n2hbb, d1hbb, d2hbb, e1hbb, e2hbb, Int.toNat_natCast, p1hbb, p2hbb]; rfl) ?_
      refine Ex.forget2 fun E hbb hE hbb_m hbb_x => ?_; have k0 := hE 0; simp (config := {decide := true}) only [RS, Nat.reduceAdd, g0, g4, g12, g14] at k0; have k4 := hE 4; simp (config := {decide := true}) only [RS, Nat.reduceAdd, g0, g4, g12, g14] at k4; have k12 := hE 12; simp (config := {decide := true}) only [RS, Nat.reduceAdd, g0, g4, g12, g14] at k12; clear hE g0 g4 g12 g14; have g0 := k0; clear k0; have g4 := k4; clear k4; have g12 := k12; clear k12; dsimp only at hbb_m hbb_x
      have i2 := PadInv.pair (r := r14) (i1 : PadInv k x (i + 2) _ _) (by omega) (by omega)
      obtain ⟨o2, eo2⟩ : ∃ o, o = (o1.set (i + 1) (48 + r14 % 10)).set (i) (48 + r14 / 10) := ⟨_, rfl⟩
      rw [← eo2] at i2
      have hmhbb : ∀ b, hbb.m.get b = if b = bb then some (.row (u8s o2) false) else h.m.get b := fun b => by
        rw [hbb_m, eo2]
        simp only [PT.get_set, hmha]
        split <;> rfl
      have d4 : IntKind.i64.wrap (((i + 4 : Nat) : Int) - 4) = ((i : Nat) : Int) := by rw [wrap_i64] <;> omega
      refine Ex.last (m := 0) (by simp (config := {decide := true}) only [RS, Nat.reduceAdd, g4, d4]; rfl) ?_
      simp (config := {decide := true}) only [thenK, blockK, ite_true, ite_false, if_true, if_false]
      refine ⟨i, y / 10000, o2, by omega, ?_, by omega, ?_, by simp (config := {decide := true}) only [RS, Nat.reduceAdd, g0], by simp (config := {decide := true}) only [RS, Nat.reduceAdd, g12], by simp (config := {decide := true}) only [RS, Nat.reduceAdd], hmhbb⟩
      · rw [Nat.div_lt_iff_lt_mul (by omega), show (10000 : Nat) = 10 ^ 4 by decide, ← Nat.pow_add]; exact hyj
      · rw [show y / 10000 = y / 100 / 100 by omega]
        exact i2
    · have hj' : ¬ ((j : Nat) : Int) ≥ 4 := by omega
      refine Ex.cond_false (by simp (config := {decide := true}) only [RS, Nat.reduceAdd, g99, hj']) (Ex.skip ?_)
      simp (config := {decide := true}) only [thenK, blockK, ite_true, ite_false, if_true, if_false]
      exact ⟨j, y, out, by omega, hyj, hyx, hi, g0, g12, g4, hmh'⟩
  clear g0 g4 g12 g99 hj hjk hyx hyj hi hmh' v1
  rintro env h' ⟨j, y, out, hj, hyj, hyx, hi, g0, g12, g4, hmh'⟩
  have hjk := hi.2.1
  (repeat refine Ex.assoc ?_); refine Ex.step (m := 0) (by simp (config := {decide := true}) only [RS, Nat.reduceAdd, g4]; rfl) ?_
  refine Ex.forget fun E hE => ?_; have k0 := hE 0; simp (config := {decide := true}) only [RS, Nat.reduceAdd, g0, g4, g12] at k0; have k4 := hE 4; simp (config := {decide := true}) only [RS, Nat.reduceAdd, g0, g4, g12] at k4; have k12 := hE 12; simp (config := {decide := true}) only [RS, Nat.reduceAdd, g0, g4, g12] at k12; have k139 := hE 139; simp (config := {decide := true}) only [RS, Nat.reduceAdd, g0, g4, g12] at k139; clear hE g0 g4 g12; have g0 := k0; clear k0; have g4 := k4; clear k4; have g12 := k12; clear k12; have g139 := k139; clear k139
  (repeat refine Ex.assoc ?_)
  refine Ex.cut (fun env h' => ∃ (j y : Nat) (out : List Nat), j < 2 ∧ y < 10 ^ j ∧ y ≤ x ∧ PadInv k x j y out ∧ env.get 0 = some (.slice bb 0 k 24 true 1) ∧ env.get 12 = some (.int .u32 y) ∧ env.get 4 = some (.int .i64 j) ∧ ∀ b, h'.m.get b = if b = bb then some (.row (u8s out) false) else h.m.get b) ?_ ?_
  · by_cases hj2 : j ≥ 2
    · have hj' : ((j : Nat) : Int) ≥ 2 := by omega
      refine Ex.cond_true (by simp (config := {decide := true}) only [RS, Nat.reduceAdd, g139, hj']) ?_
      obtain ⟨i, rfl⟩ : ∃ i, j = i + 2 := ⟨j - 2, by omega⟩
      obtain ⟨r16, hr16⟩ : ∃ r, r = y % 100 := ⟨_, rfl⟩
      have u1 : ((y : Nat) : Int).tmod 100 = ((r16 : Nat) : Int) := by rw [hr16]; exact (Int.ofNat_tmod y 100).symm
      have u2 : IntKind.u32.wrap (((y : Nat) : Int).tdiv 100) = ((y / 100 : Nat) : Int) := q32 y 100 (by omega)
      (repeat refine Ex.assoc ?_); refine Ex.step (m := 0) (by simp (config := {decide := true}) only [RS, Nat.reduceAdd, g12, u1, hm2 r16 (by omega)]; rfl) ?_
      (repeat refine Ex.assoc ?_); refine Ex.step (m := 0) (by simp (config := {decide := true}) only [RS, Nat.reduceAdd, g12, u2]; rfl) ?_
      refine Ex.forget fun E hE => ?_; have k0 := hE 0; simp (config := {decide := true}) only [RS, Nat.reduceAdd, g0, g4, g12, g139] at k0; have k4 := hE 4; simp (config := {decide := true}) only [RS, Nat.reduceAdd, g0, g4, g12, g139] at k4; have k12 := hE 12; simp (config := {decide := true}) only [RS, Nat.reduceAdd, g0, g4, g12, g139] at k12; have k16 := hE 16; simp (config := {decide := true}) only [RS, Nat.reduceAdd, g0, g4, g12, g139] at k16; clear hE g0 g4 g12 g139; have g0 := k0; clear k0; have g4 := k4; clear k4; have g12 := k12; clear k12; have g16 := k16; clear k16
      have hbha : h'.m.get bb = some (.row (u8s out) false) := by rw [hmh', if_pos rfl]
      have olha := hi.1
      have loha := smalls_lo (r := r16) (by omega)
      have hiha := smalls_hi (r := r16) (by omega)
      have wha : IntKind.u32.wrap (((2 * r16 : Nat) : Int) + 1) = ((2 * r16 + 1 : Nat) : Int) := by rw [wrap_u32]; omega
      have n1ha : 0 ≤ ((2 * r16 + 1 : Nat) : Int) := by omega
      have n2ha : 0 ≤ ((2 * r16 : Nat) : Int) := by omega
      have d1ha : IntKind.i64.wrap (((i + 2 : Nat) : Int) - 1) = ((i + 1 : Nat) : Int) := by rw [wrap_i64] <;> omega
      have d2ha : IntKind.i64.wrap (((i + 2 : Nat) : Int) - 2) = ((i : Nat) : Int) := by rw [wrap_i64] <;> omega
      have e1ha : (0 ≤ ((i + 1 : Nat) : Int) ∧ ((i + 1 : Nat) : Int) < ((k : Nat) : Int)) := by omega
      have e2ha : (0 ≤ ((i : Nat) : Int) ∧ ((i : Nat) : Int) < ((k : Nat) : Int)) := by omega
      have p1ha := fun nx => putCells_u8 (h := ⟨h'.m, nx⟩) hbha (i := i + 1) (x := 48 + r16 % 10) (by omega)
      have p2ha := fun nx => putCells_u8 (h := ⟨h'.m.set bb (.row (u8s (out.set (i + 1) (48 + r16 % 10))) false), nx⟩) (ob := bb) (out := out.set (i + 1) (48 + r16 % 10)) (by simp only [PT.get_set, if_true]) (i := i) (x := 48 + r16 / 10) (by simp; omega)
      (repeat refine Ex.assoc ?_); refine Ex.step (m := 0) (by rw [drawR (B := [0, 0, 2, 0, 0, 16, 0, 64, 192, 0, 512, 455, 2503, 8191, 16383]) (ord := [0, 1, 2, 6, 7, 8, 11, 12, 3, 4, 5, 9, 10, 13, 14]) (by kernel_rfl) (by kernel_rfl) (by kernel_rfl)]; simp (config := {decide := true}) only [RS, Nat.reduceAdd, drawOps, drawStep, readOk, readsA, segsOk, blkOk, Bool.true_or, Bool.or_true, AV.beqL_refl, g0, g4, g16, tBy, tStr, tU8, hU8, sU8, aU8, smalls_eq, loha, hiha, wha, n1ha, n2ha, d1ha, d2ha, e1ha, e2ha, Int.toNat_natCast, p1ha, p2ha]; rfl) ?_
      refine Ex.forget2 fun E ha hE ha_m ha_x => ?_; have k0 := hE 0; simp (config := {decide := true}) only [RS, Nat.reduceAdd, g0, g4, g12, g16] at k0; have k4 := hE 4; simp (config := {decide := true}) only [RS, Nat.reduceAdd, g0, g4, g12, g16] at k4; have k12 := hE 12; simp (config := {decide := true}) only [RS, Nat.reduceAdd, g0, g4, g12, g16] at k12; clear hE g0 g4 g12 g16; have g0 := k0; clear k0; have g4 := k4; clear k4; have g12 := k12; clear k12; dsimp only at ha_m ha_x
      have i1 := PadInv.pair (r := r16) (hi : PadInv k x (i + 2) _ _) (by omega) (by omega)
      obtain ⟨o1, eo1⟩ : ∃ o, o = (out.set (i + 1) (48 + r16 % 10)).set (i) (48 + r16 / 10) := ⟨_, rfl⟩
      rw [← eo1] at i1
      have hmha : ∀ b, ha.m.get b = if b = bb then some (.row (u8s o1) false) else h.m.get b := fun b => by
        rw [ha_m, eo1]
        simp only [PT.get_set, hmh']
        split <;> rfl
      have d4 : IntKind.i64.wrap (((i + 2 : Nat) : Int) - 2) = ((i : Nat) : Int) := by rw [wrap_i64] <;> omega
      refine Ex.last (m := 0) (by simp (config := {decide := true}) only [RS, Nat.reduceAdd, g4, d4]; rfl) ?_
      simp (config := {decide := true}) only [thenK, blockK, ite_true, ite_false, if_true, if_false]
      refine ⟨i, y / 100, o1, by omega, ?_, by omega, i1, by simp (config := {decide := true}) only [RS, Nat.reduceAdd, g0], by simp (config := {decide := true}) only [RS, Nat.reduceAdd, g12], by simp (config := {decide := true}) only [RS, Nat.reduceAdd], hmha⟩
      rw [Nat.div_lt_iff_lt_mul (by omega), show (100 : Nat) = 10 ^ 2 by decide, ← Nat.pow_add]; exact hyj
    · have hj' : ¬ ((j : Nat) : Int) ≥ 2 := by omega
      refine Ex.cond_false (by simp (config := {decide := true}) only [RS, Nat.reduceAdd, g139, hj']) (Ex.skip ?_)
      simp (config := {decide := true}) only [thenK, blockK, ite_true, ite_false, if_true, if_false]
      exact ⟨j, y, out, by omega, hyj, hyx, hi, g0, g12, g4, hmh'⟩
  clear g0 g4 g12 g139 hj hjk hyx hyj hi hmh'
  rintro env h' ⟨j, y, out, hj, hyj, hyx, hi, g0, g12, g4, hmh'⟩
  have hjk := hi.2.1
  (repeat refine Ex.assoc ?_); refine Ex.step (m := 0) (by simp (config := {decide := true}) only [RS, Nat.reduceAdd, g4]; rfl) ?_
  refine Ex.forget fun E hE => ?_; have k0 := hE 0; simp (config := {decide := true}) only [RS, Nat.reduceAdd, g0, g4, g12] at k0; have k4 := hE 4; simp (config := {decide := true}) only [RS, Nat.reduceAdd, g0, g4, g12] at k4; have k12 := hE 12; simp (config := {decide := true}) only [RS, Nat.reduceAdd, g0, g4, g12] at k12; have k161 := hE 161; simp (config := {decide := true}) only [RS, Nat.reduceAdd, g0, g4, g12] at k161; clear hE g0 g4 g12; have g0 := k0; clear k0; have g4 := k4; clear k4; have g12 := k12; clear k12; have g161 := k161; clear k161
  by_cases hj1 : j = 0
  · subst hj1
    refine Ex.cond_false (by simp (config := {decide := true}) only [RS, Nat.reduceAdd, g161] <;> rfl) (Ex.skip ?_)
    refine ⟨trivial, _, rfl, out, rfl, hi.1, ?_, hmh'⟩
    have := hi.2.2.2
    simpa using this
  · have hj' : j = 1 := by omega
    subst hj'
    refine Ex.cond_true (by simp (config := {decide := true}) only [RS, Nat.reduceAdd, g161] <;> rfl) ?_
    have hy10 : y < 10 := by simpa using hyj
    have hb1 : h'.m.get bb = some (.row (u8s out) false) := by rw [hmh', if_pos rfl]
    have p1 := fun nx => putCells_u8 (h := ⟨h'.m, nx⟩) hb1 (i := 0) (x := 48 + y) (by have := hi.1; omega)
    have w1 : IntKind.u32.wrap (48 + ((y : Nat) : Int)) = ((48 + y : Nat) : Int) := by rw [wrap_u32]; omega
    have w2 : IntKind.u8.wrap ((48 + y : Nat) : Int) = ((48 + y : Nat) : Int) := by rw [wrap_u8] <;> omega
    have e0 : (0 ≤ (0 : Int) ∧ (0 : Int) < ((k : Nat) : Int)) := by omega
    have p1' : ∀ nx, putCells ⟨h'.m, nx⟩ bb (0 + Int.toNat 0 * 1) [.int .u8 ((48 + y : Nat) : Int)] = _ := p1
    refine Ex.last (m := 0) (by simp (config := {decide := true}) only [RS, Nat.reduceAdd, g0, g12, tBy, tU8, tU32, hU8, sU8, aU8, w1, w2, e0, p1']; rfl) ?_
    simp (config := {decide := true}) only [thenK, blockK, ite_true, ite_false, if_true, if_false]
    refine ⟨trivial, _, by simp (config := {decide := true}) only [RS, Nat.reduceAdd]; rfl, out.set 0 (48 + y), by simp (config := {decide := true}) only [RS, Nat.reduceAdd], by simpa using hi.1, ?_, fun b => ?_⟩
    · have h4 := hi.2.2.2
      have hol := hi.1
      obtain ⟨k', rfl⟩ : ∃ k', k = k' + 1 := ⟨k - 1, by omega⟩
      rw [Nat.add_comm k' 1, pad_add]
      have hy := hi.2.2.1
      rw [Nat.add_sub_cancel] at hy h4
      rw [← h4, ← hy]
      match out, hol with
      | c :: cs, _ => simp [pad, Nat.mod_eq_of_lt hy10, Nat.add_comm 1 k']
    · simp only [PT.get_set, hmh']
      split <;> rfl
end Go.Vk
set_option linter.unusedSimpArgs false
set_option linter.unusedVariables false
set_option maxRecDepth 100000
set_option maxHeartbeats 4000000
namespace Go.Vk
open Go.Proofs (Tryz.prog)
theorem tA24 : Tryz.prog.underlying 345 = some (.array 24 5) := by kernel_rfl
theorem zA24 : zeroT Tryz.prog 345 = some (u8s (List.replicate 24 0)) := by kernel_rfl
theorem bytesOk_u8s : ∀ {ds : List Nat}, (∀ d ∈ ds, d < 256) → bytesOk (u8s ds) = some ds
  | [], _ => rfl
  | d :: ds, h => by
    have h1 := bytesOk_u8s (ds := ds) fun x hx => h x (List.mem_cons_of_mem _ hx)
    have h2 := h d (List.mem_cons_self ..)
    unfold u8s at h1 ⊢
    simp only [List.map_cons, bytesOk]
    rw [if_pos (by omega), h1]
    simp [Nat.mod_eq_of_lt h2]
theorem pad_lt : ∀ {k x d : Nat}, d ∈ pad k x → d < 256
  | k + 1, x, d, h => by
    simp only [pad, List.mem_append, List.mem_singleton] at h
    rcases h with h | h
    · exact pad_lt h
    · omega
theorem fn_fmtI : fnE Tryz.prog 183 = some ⟨(Go.Proofs.Tryz.f183.body).getD .skip, 32, [.tmp 4]⟩ := by kernel_rfl
theorem fmtI_run {hk : Hooks} (B : BareS hk) {h : Hp} (hf : h.fr) (hp : HasPow h) {x : Nat} (hx : x < 1000000000) :
    ExF Tryz.prog hk 183 [.int .u64 x, .int .i64 10] h fun r' h1 => r' = .str (dec x) ∧ h.sub h1 := by
  refine ExF.body fn_fmtI (B.fmtI _ _) (by simp) ?_
  simp only [Go.Proofs.Tryz.f183, Option.getD_some]
  (repeat refine Ex.assoc ?_); refine Ex.step (m := 0) (by simp (config := {decide := true}) only [RS, Nat.reduceAdd]; rfl) ?_
  (repeat refine Ex.assoc ?_); refine Ex.step (m := 0) (by simp (config := {decide := true}) only [RS, Nat.reduceAdd]; rfl) ?_
  refine Ex.forget fun E hE => ?_; have k0 := hE 0; simp (config := {decide := true}) only [RS, Nat.reduceAdd] at k0; have k1 := hE 1; simp (config := {decide := true}) only [RS, Nat.reduceAdd] at k1; have k10 := hE 10; simp (config := {decide := true}) only [RS, Nat.reduceAdd] at k10; clear hE; have g0 := k0; clear k0; have g1 := k1; clear k1; have g10 := k10; clear k10
  refine Ex.ifT (by simp (config := {decide := true}) only [RS, Nat.reduceAdd, g10] <;> rfl) ?_
  (repeat refine Ex.assoc ?_); refine Ex.step (m := 0) (by simp (config := {decide := true}) only [RS, Nat.reduceAdd, g0]; rfl) ?_
  refine Ex.forget fun E hE => ?_; have k0 := hE 0; simp (config := {decide := true}) only [RS, Nat.reduceAdd, g0, g1, g10] at k0; have k12 := hE 12; simp (config := {decide := true}) only [RS, Nat.reduceAdd, g0, g1, g10] at k12; clear hE g0 g1 g10; have g0 := k0; clear k0; have g12 := k12; clear k12
  by_cases hc : x < 100
  · have hc' : ((x : Nat) : Int) < 100 := by omega
    refine Ex.ifT (by simp (config := {decide := true}) only [RS, Nat.reduceAdd, g12, hc']) ?_
    obtain ⟨m1, N1, x1, q1⟩ := ExF.same B.grow (small_run B (h := ⟨h.m, h.nx + 9⟩) hc)
    have q1' := q1 m1 (Nat.le_refl _)
    have w1 : IntKind.i64.wrap ((x : Nat) : Int) = (x : Nat) := by rw [wrap_i64] <;> omega
    (repeat refine Ex.assoc ?_); refine Ex.step (m := m1) (by simp (config := {decide := true}) only [RS, Nat.reduceAdd, g0, tU64, tInt, w1, fn_small, q1']; rfl) ?_
    refine Ex.retS ?_
    refine ⟨trivial, _, by simp (config := {decide := true}) only [RS, Nat.reduceAdd]; rfl, ?_, fun b x hb => hb⟩
    simp (config := {decide := true}) only [RS, Nat.reduceAdd]
  · have hc' : ¬ ((x : Nat) : Int) < 100 := by omega
    refine Ex.ifF (by simp (config := {decide := true}) only [RS, Nat.reduceAdd, g12, hc']) (Ex.skipS ?_)
    have hn5 : h.m.get (h.nx + 5) = none := hf _ (by omega)
    have zA24' : zeroT Tryz.prog 345 = some (AV.int .u8 ((0 : Nat) : Int) :: AV.int .u8 ((0 : Nat) : Int) :: u8s (List.replicate 22 0)) := zA24
    (repeat refine Ex.assoc ?_); refine Ex.step (m := 0) (by simp (config := {decide := true}) only [RS, Nat.reduceAdd, zA24', fresh, hn5]; rfl) ?_
    rw [show (AV.int .u8 ((0 : Nat) : Int) :: AV.int .u8 ((0 : Nat) : Int) :: u8s (List.replicate 22 0)) = u8s (List.replicate 24 0) from rfl]
    refine Ex.forget fun E hE => ?_; have k0 := hE 0; simp (config := {decide := true}) only [RS, Nat.reduceAdd, g0, g12] at k0; have k5 := hE 5; simp (config := {decide := true}) only [RS, Nat.reduceAdd, g0, g12] at k5; clear hE g0 g12; have g0 := k0; clear k0; have g5 := k5; clear k5
    obtain ⟨BB, hBB⟩ : ∃ b, b = h.nx + 5 := ⟨_, rfl⟩
    rw [← hBB] at g5 hn5 ⊢
    obtain ⟨M1, hM1⟩ : ∃ M, M = h.m.set BB (.row (u8s (List.replicate 24 0)) false) := ⟨_, rfl⟩
    rw [← hM1]
    have hM1g : ∀ b, M1.get b = if b = BB then some (.row (u8s (List.replicate 24 0)) false) else h.m.get b := fun b => by rw [hM1, PT.get_set]
    have hpow1 : ∀ nx, HasPow ⟨M1, nx⟩ := fun nx => by
      obtain ⟨ro, hr⟩ := hp
      refine ⟨ro, ?_⟩
      show M1.get 1 = _
      rw [hM1g, if_neg]
      · exact hr
      · intro e; rw [← e, hr] at hn5; cases hn5
    obtain ⟨m1, v1, h1, q1, ⟨e1, k, rfl, k3, k9, kx, kl⟩, G1⟩ := ((numd_run B (h := ⟨M1, h.nx + 6 + 3⟩) (hpow1 _) (x := x) (by omega) hx).grow B.grow).lift
    rcases h1 with ⟨M1', N1⟩
    dsimp only at e1
    subst e1
    have q1' := q1 m1 (Nat.le_refl _)
    (repeat refine Ex.assoc ?_); refine Ex.step (m := m1) (by simp (config := {decide := true}) only [RS, Nat.reduceAdd, g0, fn_numd, q1']; rfl) ?_
    refine Ex.forget fun E hE => ?_; have k0 := hE 0; simp (config := {decide := true}) only [RS, Nat.reduceAdd, g0, g5] at k0; have k5 := hE 5; simp (config := {decide := true}) only [RS, Nat.reduceAdd, g0, g5] at k5; have k6 := hE 6; simp (config := {decide := true}) only [RS, Nat.reduceAdd, g0, g5] at k6; clear hE g0 g5; have g0 := k0; clear k0; have g5 := k5; clear k5; have g6 := k6; clear k6
    have hb1 : M1'.get BB = some (.row (u8s (List.replicate 24 0)) false) := by rw [hM1g, if_pos rfl]
    obtain ⟨m2, v2, h2, q2, ⟨out, rfl, o1, o2, o3⟩, G2⟩ := ((base10_run B (h := ⟨M1', N1 + 4⟩) (bb := BB) (k := k) (x := x) hb1 (by simp) k9 kx).grow B.grow).lift
    have q2' := q2 m2 (Nat.le_refl _)
    have hg1 : ∀ nx, getCells ⟨M1', nx⟩ BB 0 (24 * 1) = some (u8s (List.replicate 24 0)) := fun nx => by
      unfold getCells
      simp only [hb1]
      rw [if_pos (by simp [u8s])]
      simp only [List.drop_zero]
      rw [List.take_of_length_le (by simp [u8s])]
    have c1 : (0 ≤ ((k : Nat) : Int) ∧ ((k : Nat) : Int) ≤ ((24 : Nat) : Int)) := by omega
    have c1' : (0 ≤ ((k : Nat) : Int) ∧ ((k : Nat) : Int) ≤ 24) := by omega
    (repeat refine Ex.assoc ?_); refine Ex.step (m := m2) (by simp (config := {decide := true}) only [RS, Nat.reduceAdd, g0, g5, g6, tA24, aSliceArr, hU8, sU8, hg1, c1, c1', Int.toNat_natCast, fn_base10, q2']; rfl) ?_
    refine Ex.forget fun E hE => ?_; have k5 := hE 5; simp (config := {decide := true}) only [RS, Nat.reduceAdd, g0, g5, g6] at k5; have k6 := hE 6; simp (config := {decide := true}) only [RS, Nat.reduceAdd, g0, g5, g6] at k6; clear hE g0 g5 g6; have g5 := k5; clear k5; have g6 := k6; clear k6
    have hb2 : h2.m.get BB = some (.row (u8s out) false) := by rw [o3, if_pos rfl]
    have hg2 : ∀ nx, getCells ⟨h2.m, nx⟩ BB 0 (24 * 1) = some (u8s out) := fun nx => by
      unfold getCells
      simp only [hb2]
      rw [if_pos (by simp [u8s]; omega)]
      simp only [List.drop_zero]
      rw [List.take_of_length_le (by simp [u8s]; omega)]
    have hg3 : ∀ nx, getCells ⟨h2.m, nx⟩ BB 0 k = some (u8s (pad k x)) := fun nx => by
      unfold getCells
      simp only [hb2]
      rw [if_pos (by simp [u8s]; omega)]
      simp only [List.drop_zero]
      rw [← o2]
      unfold u8s
      rw [List.map_take]
    have hbo : bytesOk (u8s (pad k x)) = some (pad k x) := bytesOk_u8s fun d hd => pad_lt hd
    (repeat refine Ex.assoc ?_); refine Ex.step (m := 0) (by simp (config := {decide := true}) only [RS, Nat.reduceAdd, g5, g6, tA24, aSliceArr, hU8, sU8, hg2, c1, c1', Int.toNat_natCast, tBy, tStr, tU8, hg3, hbo]; rfl) ?_
    refine Ex.retS ?_
    refine ⟨trivial, _, by simp (config := {decide := true}) only [RS, Nat.reduceAdd]; rfl, ?_, fun b x hb => ?_⟩
    · simp (config := {decide := true}) only [RS, Nat.reduceAdd]
      rw [dec_pad (by omega) kx (.inr kl)]
    · show h2.m.get b = _
      have hne : b ≠ BB := fun e => by rw [e, hn5] at hb; cases hb
      rw [o3, if_neg hne]
      show M1'.get b = _
      rw [hM1g, if_neg hne]; exact hb
theorem fn_fmt : fnE Tryz.prog 125 = some ⟨(Go.Proofs.Tryz.f125.body).getD .skip, 8, [.tmp 4]⟩ := by kernel_rfl
theorem fmt_run {hk : Hooks} (B : BareS hk) {h : Hp} (hf : h.fr) (hp : HasPow h) {x : Nat} (hx : x < 1000000000) :
    ExF Tryz.prog hk 125 [.int .u64 x, .int .i64 10] h fun r' h1 => r' = .str (dec x) ∧ h.sub h1 := by
  refine ExF.body fn_fmt (B.fmt _ _) (by simp) ?_
  simp only [Go.Proofs.Tryz.f125, Option.getD_some]
  (repeat refine Ex.assoc ?_); refine Ex.step (m := 0) (by simp (config := {decide := true}) only [RS, Nat.reduceAdd]; rfl) ?_
  obtain ⟨m1, v1, h1, q1, ⟨rfl, s1⟩, G1⟩ := ((fmtI_run B (h := ⟨h.m, h.nx + 5⟩) (fun b hb => hf b (by simp only at hb; omega)) hp hx).grow B.grow).lift
  have q1' := q1 m1 (Nat.le_refl _)
  (repeat refine Ex.assoc ?_); refine Ex.step (m := m1) (by simp (config := {decide := true}) only [RS, Nat.reduceAdd, fn_fmtI, q1']; rfl) ?_
  refine Ex.ret ⟨trivial, _, by simp (config := {decide := true}) only [RS, Nat.reduceAdd]; rfl, ?_, s1⟩
  simp (config := {decide := true}) only [RS, Nat.reduceAdd]
/-! ### noughts -/
theorem rep0 : ∀ k, k < 9 → (callF Tryz.prog (fun _ _ _ => none) 100 126 [.str [48], .int .i64 (k : Nat)] ⟨.leaf, 1000⟩).map (·.1) = some (.str (List.replicate k 48)) := fun k hk =>
  match k, hk with
  | 0, _ => by kernel_rfl
  | 1, _ => by kernel_rfl
  | 2, _ => by kernel_rfl
  | 3, _ => by kernel_rfl
  | 4, _ => by kernel_rfl
  | 5, _ => by kernel_rfl
  | 6, _ => by kernel_rfl
  | 7, _ => by kernel_rfl
  | 8, _ => by kernel_rfl
end Go.Vk
set_option linter.unusedSimpArgs false
set_option linter.unusedVariables false
set_option maxRecDepth 100000
set_option maxHeartbeats 4000000
namespace Go.Vk
open Go.Proofs (Tryz.prog)
def hasPow (h : Hp) : Bool := match h.m.get 1 with
  | some (.row cs _) => AV.beqL cs pow10L
  | _ => false
theorem hasPow_iff {h : Hp} (hp : hasPow h = true) : HasPow h := by
  unfold hasPow at hp
  split at hp
  · rename_i cs ro hg
    have := AV.beqL_eq _ _ hp
    subst this
    exact ⟨ro, hg⟩
  · cases hp
theorem hasPow_sub {h h' : Hp} (hs : h.sub h') (hp : hasPow h = true) : hasPow h' = true := by
  unfold hasPow at hp ⊢
  split at hp
  · rename_i cs ro hg; rw [hs _ _ hg]; exact hp
  · cases hp
def fmtOk (x b : Int) (h : Hp) : Bool := decide (0 ≤ x) && decide (x < 1000000000) && decide (b = 10) && hasPow h
theorem fmtOk_iff {x b : Int} {h : Hp} : fmtOk x b h = true ↔ 0 ≤ x ∧ x < 1000000000 ∧ b = 10 ∧ hasPow h = true := by
  simp only [fmtOk, Bool.and_eq_true, decide_eq_true_eq, and_assoc]
/-- Hooks of the library's. -/
def gS : FuncId → List AV → Hp → Option AV := fun f args h =>
  if f = 125 then match args with
    | [.int .u64 x, .int .i64 b] => if fmtOk x b h = true then some (.str (dec x.toNat)) else none
    | _ => none
  else if f = 126 then match args with
    | [.str [48], .int .i64 k] => if 0 ≤ k ∧ k < 9 then some (.str (List.replicate k.toNat 48)) else none
    | _ => none
  else none
theorem bareS0 : BareS (fun _ _ _ => none) := ⟨fun f args h r h1 hh => (by cases hh), fun _ _ => rfl, fun _ _ => rfl, fun _ _ => rfl, fun _ _ => rfl, fun _ _ => rfl, fun _ _ => rfl, fun _ _ => rfl, fun _ _ => rfl⟩
theorem gS_ok : ∀ f args h r, gS f args h = some r → PureOK Tryz.prog f args h r := by
  intro f args h r hh
  unfold gS at hh
  split at hh
  · rename_i hf
    subst hf
    split at hh
    · rename_i x b
      split at hh
      · rename_i hc
        obtain ⟨h1, h2, rfl, h4⟩ := fmtOk_iff.1 hc
        injection hh with hh; subst hh
        obtain ⟨n, rfl⟩ : ∃ n : Nat, x = (n : Int) := ⟨x.toNat, by omega⟩
        intro c vs hr hgl hv
        refine pure_of_run prog_mixed noHk_ok noHk_dom hr hgl (Opens.refl hr) hv ?_
        obtain ⟨m, r', h5, q1, rfl, q2⟩ := fmt_run bareS0 hr.fr (hasPow_iff h4) (x := n) (by omega)
        exact ⟨m, _, h5, q1, q2, closes_flat rfl⟩
      · cases hh
    · cases hh
  · split at hh
    · rename_i hf
      subst hf
      split at hh
      · rename_i k
        split at hh
        · rename_i hc
          injection hh with hh; subst hh
          obtain ⟨n, rfl⟩ : ∃ n : Nat, k = (n : Int) := ⟨k.toNat, by omega⟩
          have h0 := rep0 n (by omega)
          rw [Option.map_eq_some_iff] at h0
          obtain ⟨⟨r, h1⟩, h2, h3⟩ := h0
          simp only at h3; subst h3
          exact memo_ok prog_mixed noHk_ok noHk_dom h2 rfl rfl rfl Tables.leaf
        · cases hh
      · cases hh
    · cases hh
abbrev hkS : Hooks := pureHk gS
theorem hkS_ok : CallOK Tryz.prog hkS := pureHk_ok gS_ok
structure BaseS (hk : Hooks) : Prop where
  fmt : ∀ (h : Hp) (x : Nat), x < 1000000000 → hasPow h = true → hk 125 [.int .u64 x, .int .i64 10] h = some (.str (dec x), h)
  rep : ∀ (h : Hp) (k : Nat), k < 9 → hk 126 [.str [48], .int .i64 k] h = some (.str (List.replicate k 48), h)
theorem gS_fmt {h : Hp} {x : Nat} (hx : x < 1000000000) (hp : hasPow h = true) : gS 125 [.int .u64 x, .int .i64 10] h = some (.str (dec x)) := by
  have h1 : fmtOk ((x : Nat) : Int) 10 h = true := fmtOk_iff.2 ⟨by omega, by omega, rfl, hp⟩
  unfold gS
  rw [if_pos rfl]
  simp only
  rw [if_pos h1, Int.toNat_natCast]
theorem gS_rep {h : Hp} {k : Nat} (hk : k < 9) : gS 126 [.str [48], .int .i64 k] h = some (.str (List.replicate k 48)) := by
  have h1 : 0 ≤ ((k : Nat) : Int) ∧ ((k : Nat) : Int) < 9 := ⟨by omega, by omega⟩
  unfold gS
  rw [if_neg (by decide), if_pos rfl]
  simp only
  rw [if_pos h1, Int.toNat_natCast]
theorem pureHk_some {g : FuncId → List AV → Hp → Option AV} {f : FuncId} {args : List AV} {h : Hp} {r : AV} (hg : g f args h = some r) : pureHk g f args h = some (r, h) := by
  unfold pureHk; rw [hg]
theorem baseS0 : BaseS hkS := ⟨fun h x hx hp => pureHk_some (gS_fmt hx hp), fun h k hk => pureHk_some (gS_rep hk)⟩

theorem exists_digits : ∀ r : Nat, ∃ k, 0 < k ∧ r < 10 ^ k ∧ (k = 1 ∨ 10 ^ (k - 1) ≤ r) := by
  intro r
  induction r using Nat.strongRecOn with
  | _ r ih =>
    by_cases h : r < 10
    · exact ⟨1, by omega, by simpa using h, .inl rfl⟩
    · obtain ⟨k, h1, h2, h3⟩ := ih (r / 10) (by omega)
      refine ⟨k + 1, by omega, by rw [Nat.pow_succ]; omega, .inr ?_⟩
      obtain ⟨j, rfl⟩ : ∃ j, k = j + 1 := ⟨k - 1, by omega⟩
      rw [Nat.add_sub_cancel, Nat.pow_succ]
      rcases h3 with h3 | h3
      · have : j = 0 := by omega
        subst this; simp; omega
      · rw [Nat.add_sub_cancel] at h3; omega
theorem pad_low : ∀ (m a L : Nat), pad m (a * 10 ^ m + L) = pad m L
  | 0, a, L => rfl
  | m + 1, a, L => by
    simp only [pad]
    have e1 : (a * 10 ^ (m + 1) + L) / 10 = a * 10 ^ m + L / 10 := by rw [Nat.pow_succ, ← Nat.mul_assoc]; omega
    have e2 : (a * 10 ^ (m + 1) + L) % 10 = L % 10 := by rw [Nat.pow_succ, ← Nat.mul_assoc]; omega
    rw [e1, e2, pad_low m]
theorem dec_app {r m L : Nat} (hr : 0 < r) (hL : L < 10 ^ m) : dec (r * 10 ^ m + L) = dec r ++ pad m L := by
  obtain ⟨k, h1, h2, h3⟩ := exists_digits r
  have hp : 0 < 10 ^ m := Nat.pow_pos (by omega)
  have e1 : (r * 10 ^ m + L) / 10 ^ m = r := by
    rw [Nat.mul_comm, Nat.mul_add_div hp, Nat.div_eq_of_lt hL, Nat.add_zero]
  rw [dec_pad h1 h2 h3, dec_pad (n := r * 10 ^ m + L) (k := k + m) (by omega) ?_ ?_, pad_add, e1, pad_low]
  · rw [Nat.pow_add]
    have : (r + 1) * 10 ^ m ≤ 10 ^ k * 10 ^ m := Nat.mul_le_mul_right _ h2
    rw [Nat.succ_mul] at this
    omega
  · rcases h3 with h3 | h3
    · subst h3
      rcases Nat.eq_zero_or_pos m with h4 | h4
      · subst h4; exact .inl rfl
      · right
        rw [show 1 + m - 1 = m by omega]
        have : 1 * 10 ^ m ≤ r * 10 ^ m := Nat.mul_le_mul_right _ hr
        omega
    · right
      rw [show k + m - 1 = (k - 1) + m by omega, Nat.pow_add]
      have := Nat.mul_le_mul_right (10 ^ m) h3
      omega
theorem pad_cat {i j r L : Nat} (hL : L < 10 ^ j) : pad i r ++ pad j L = pad (i + j) (r * 10 ^ j + L) := by
  have hp : 0 < 10 ^ j := Nat.pow_pos (by omega)
  rw [pad_add, pad_low, Nat.mul_comm, Nat.mul_add_div hp, Nat.div_eq_of_lt hL, Nat.add_zero]
theorem pad_zero : ∀ k, pad k 0 = List.replicate k 48
  | 0 => rfl
  | k + 1 => by simp [pad, pad_zero k, List.replicate_succ']
theorem dec_len {r k : Nat} (h : r < 10 ^ k) (hk : 0 < k) : (dec r).length ≤ k ∧ List.replicate (k - (dec r).length) 48 ++ dec r = pad k r := by
  obtain ⟨j, h1, h2, h3⟩ := exists_digits r
  have hjk : j ≤ k := by
    rcases h3 with h3 | h3
    · omega
    · rcases Nat.lt_or_ge k j with h4 | h4
      · exfalso
        have : 10 ^ k ≤ 10 ^ (j - 1) := Nat.pow_le_pow_right (by omega) (by omega)
        omega
      · exact h4
  rw [dec_pad h1 h2 h3, pad_length]
  refine ⟨hjk, ?_⟩
  have : k = (k - j) + j := by omega
  rw [this, pad_add, Nat.div_eq_of_lt h2, pad_zero, Nat.add_sub_cancel]
end Go.Vk
set_option linter.unusedSimpArgs false
set_option linter.unusedVariables false
set_option maxRecDepth 100000
set_option maxHeartbeats 4000000
namespace Go.Vk
open Go.Proofs (Tryz.prog)
theorem bytes_nil : bytesOf ({ data := #[] } : ByteArray) = [] := rfl
theorem bytes_0 : bytesOf ({ data := #[48] } : ByteArray) = [48] := by decide
/-- Digits laid into a row of their own. -/
theorem app_nil {h : Hp} {id : Nat} {x : AV} {ds bs : List Nat} (hx : DigAt h x ds bs) (hl : ds.length < 5000000000) (hid : h.m.get id = none) :
    ∃ v h1 bs', aAppend Tryz.prog 171 171 id h .nils x = some (v, h1) ∧ DigAt h1 v ds bs' ∧ h.sub h1 ∧ h1.nx = h.nx ∧ (∀ b, h1.m.get b ≠ none → h.m.get b ≠ none ∨ b = id) := by
  have hsrc : srcT Tryz.prog 171 = true := by simp [srcT, tSl]
  rcases hx with ⟨rfl, rfl, rfl | rfl⟩ | ⟨rb, off, xc, ex, _, rfl, hg, _⟩
  · refine ⟨.nils, h, [], ?_, .inl ⟨rfl, rfl, .inl rfl⟩, fun _ _ h => h, rfl, fun _ h => .inl h⟩
    unfold aAppend
    simp only [hsrc, Bool.not_true, Bool.false_eq_true, if_false, eSl]
    rw [iU32]
    simp [zU32, iU32s, iU32b, lenA, srcCells, appendTo]
  · refine ⟨.nils, h, [], ?_, .inl ⟨rfl, rfl, .inl rfl⟩, fun _ _ h => h, rfl, fun _ h => .inl h⟩
    unfold aAppend
    simp only [hsrc, Bool.not_true, Bool.false_eq_true, if_false, eSl]
    rw [iU32]
    simp [zU32, iU32s, iU32b, lenA, srcCells, appendTo]
  · by_cases hd : ds = []
    · subst hd
      refine ⟨.nils, h, [], ?_, .inl ⟨rfl, rfl, .inl rfl⟩, fun _ _ h => h, rfl, fun _ h => .inl h⟩
      unfold aAppend
      simp only [hsrc, Bool.not_true, Bool.false_eq_true, if_false, eSl]
      rw [iU32]
      simp only [zU32, iU32s, iU32b, lenA]
      rw [if_pos ⟨rfl, by omega⟩]
      have hg' : getCells h rb off 0 = some [] := hg
      simp [srcCells, sliceCells, hg', appendTo]
    · have hl0 : ds.length ≠ 0 := fun e => hd (List.eq_nil_of_length_eq_zero e)
      have hfit : fits ds.length 4 = true := by
        unfold fits most
        simp only [Bool.and_eq_true]
        exact ⟨Nat.ble_eq_true_of_le (by omega), Nat.ble_eq_true_of_le (by omega)⟩
      refine ⟨.slice id 0 ds.length ds.length false 1, ⟨h.m.set id (.row (u32s ds) false), h.nx⟩, [id], ?_, ?_, fun b x hb => ?_, rfl, fun b hb => ?_⟩
      · unfold aAppend
        simp only [hsrc, Bool.not_true, Bool.false_eq_true, if_false, eSl]
        rw [iU32]
        simp only [zU32, iU32s, iU32b, lenA]
        rw [if_pos ⟨rfl, by omega⟩]
        simp only [srcCells, Nat.le_refl, if_true, sliceCells, Nat.mul_one, hg, u32s_one, appendTo, if_neg hl0, hfit]
        simp only [fresh, hid, Option.map_some]
      · exact DigAt.row (by simp only [PT.get_set, if_true]) (Nat.le_refl _)
      · simp only [PT.get_set]
        rw [if_neg]
        · exact hb
        · intro e; rw [e, hid] at hb; cases hb
      · simp only [PT.get_set] at hb
        split at hb
        · rename_i e; exact .inr e
        · exact .inl hb
theorem fn_text : fnE Tryz.prog 81 = some ⟨(Go.Proofs.Tryz.f81.body).getD .skip, 41, [.tmp 2]⟩ := by kernel_rfl
theorem text_run {hk : Hooks} (B : Bare hk) (hn : ∀ a h, hk 81 a h = none) (S : BaseS hk) {h : Hp} (hf : h.fr) (hp : hasPow h = true) {va : AV} {da ba : List Nat} (ha : NumAt h va da ba) (sa : digOk da) (la : da.length < 5000000000) :
    ExF Tryz.prog hk 81 [va] h fun r' h1 => r' = .str (dec (digVal da)) ∧ h.sub h1 := by
  obtain ⟨ra, ha1, ha2⟩ := ha
  refine ExF.body fn_text (hn _ _) (by simp) ?_
  simp only [Go.Proofs.Tryz.f81, Option.getD_some]
  have ca : ∀ m nx, callF Tryz.prog hk m 123 [va] ⟨h.m, nx⟩ = some (ra, ⟨h.m, nx⟩) := fun m nx => callF_hk (B.digits _ _ _ ha1)
  obtain ⟨v1, h1, bs1, a1, a2, a3, a4, a5⟩ := app_nil (h := ⟨h.m, h.nx + 5⟩) (id := h.nx + 3) (x := ra) (ds := da) (bs := ba) ha2 la (hf _ (by omega))
  have f1 : h1.fr := fun b hb => by
    rw [a4] at hb
    cases hx : h1.m.get b with
    | none => rfl
    | some x =>
      rcases a5 b (by rw [hx]; exact fun h => by cases h) with h0 | h0
      · exact absurd (hf b (by simp only at hb; omega)) h0
      · simp only at hb; omega
  (repeat refine Ex.assoc ?_); refine Ex.step (m := 0) (by simp (config := {decide := true}) only [RS, Nat.reduceAdd, bytes_nil]; rfl) ?_
  have a0 : strE Tryz.prog 171 171 0 ra = none := by
    rcases ha2 with ⟨_, _, rfl | rfl⟩ | ⟨_, _, _, _, _, rfl, _⟩ <;> rfl
  simp (config := {decide := true}) only [RS, Nat.reduceAdd] at a0
  (repeat refine Ex.assoc ?_); refine Ex.step (m := 0) (by simp (config := {decide := true}) only [RS, Nat.reduceAdd, fn_digits, ca, a0, a1]; rfl) ?_
  (repeat refine Ex.assoc ?_); refine Ex.step (m := 0) (by simp (config := {decide := true}) only [RS, Nat.reduceAdd, bytes_nil]; rfl) ?_
  refine Ex.forget fun E hE => ?_; have k3 := hE 3; simp (config := {decide := true}) only [RS, Nat.reduceAdd] at k3; have k4 := hE 4; simp (config := {decide := true}) only [RS, Nat.reduceAdd] at k4; clear hE; have g3 := k3; clear k3; have g4 := k4; clear k4
  obtain ⟨A, hA⟩ : ∃ A, A = digVal da := ⟨_, rfl⟩
  have hAlt : A < 2 ^ (32 * da.length) := by
    rw [hA, Nat.pow_mul, show (2 : Nat) ^ 32 = 4294967296 by decide]; exact digVal_lt sa.1
  (repeat refine Ex.assoc ?_)
  refine Ex.cut (fun env h' => ∃ s, (A = 0 ∧ s = [] ∨ 0 < A ∧ s = dec A) ∧ h.sub h' ∧ env.get 4 = some (.str s)) (Ex.block ?_) ?_
  · refine Ex.loop (fun V env h' => ∃ (ds bs s : List Nat) (sl : AV) (i L : Nat), digVal ds = V ∧ digOk ds ∧ DigAt h' sl ds bs ∧ A = V * 10 ^ (9 * i) + L ∧ L < 10 ^ (9 * i) ∧ (0 < V → s = pad (9 * i) L) ∧ (V = 0 → (A = 0 ∧ s = [] ∨ 0 < A ∧ s = dec A)) ∧ h.sub h' ∧ h'.fr ∧
      env.get 3 = some sl ∧ env.get 4 = some (.str s)) ?_ (digVal da) _ _ ?_
    · clear g3 g4
      rintro V env h' ⟨ds, bs, s, sl, i, L, vd, od, hd, eA, hL, hs1, hs2, i1, i2, g3, g4⟩
      rcases h' with ⟨M, N⟩
      (repeat refine Ex.assoc ?_); refine Ex.step (m := 0) (by simp (config := {decide := true}) only [RS, Nat.reduceAdd, g3, hd.len]; rfl) ?_
      refine Ex.forget fun E hE => ?_; have k3 := hE 3; simp (config := {decide := true}) only [RS, Nat.reduceAdd, g3, g4] at k3; have k4 := hE 4; simp (config := {decide := true}) only [RS, Nat.reduceAdd, g3, g4] at k4; have k13 := hE 13; simp (config := {decide := true}) only [RS, Nat.reduceAdd, g3, g4] at k13; clear hE g3 g4; have g3 := k3; clear k3; have g4 := k4; clear k4; have g13 := k13; clear k13
      by_cases hV : V = 0
      · have hds : ds = [] := digVal_zero od (by rw [vd]; exact hV)
        subst hds
        refine Ex.ifF (by simp (config := {decide := true}) only [RS, Nat.reduceAdd, g13] <;> rfl) (Ex.exitS ?_)
        simp (config := {decide := true}) only [thenK, blockK, ite_true, ite_false, if_true, if_false]
        exact ⟨s, hs2 hV, i1, g4⟩
      have hds : ds ≠ [] := fun e => by subst e; simp [digVal] at vd; omega
      have hdl : ds.length ≠ 0 := fun e => hds (List.eq_nil_of_length_eq_zero e)
      have hc : ((ds.length : Nat) : Int) > 0 := by omega
      refine Ex.ifT (by simp (config := {decide := true}) only [RS, Nat.reduceAdd, g13, hc]) (Ex.skipS ?_)
      have hVA : V ≤ A := by
        rw [eA]
        have : V * 1 ≤ V * 10 ^ (9 * i) := Nat.mul_le_mul_left _ (Nat.pow_pos (by omega))
        omega
      have hdlen : ds.length ≤ da.length := len_of_lt od (by rw [vd]; have := digVal_lt sa.1; omega)
      have h9i : 9 * i < 160000000000 := by
        have h1 : 2 ^ (9 * i) ≤ 10 ^ (9 * i) := Nat.pow_le_pow_left (by omega) _
        have h2 : 1 * 10 ^ (9 * i) ≤ V * 10 ^ (9 * i) := Nat.mul_le_mul_right _ (by omega)
        have h3 : 2 ^ (9 * i) < 2 ^ (32 * da.length) := by omega
        have := (Nat.pow_lt_pow_iff_right (by omega : 1 < 2)).1 h3
        omega
      have hsp := hs1 (by omega)
      refine Ex.block ?_
      have fM : ∀ k, N ≤ k → (⟨M, k⟩ : Hp).fr := fun k hk b hb => i2 b (by simp only at hb ⊢; omega)
      obtain ⟨m2, v2, h2, q2, ⟨ob, out, rfl, o1, o2, o3, o4, o5, o6⟩, G2⟩ := ((short_run B.toBase B.short (fM (N + 10) (by omega)) (show DigAt ⟨M, N + 10⟩ sl ds bs from hd) od.1 (by omega) (y := 1000000000) (by omega) (by omega)).grow B.grow).lift
      have f2 := G2.fr (fM (N + 10) (by omega))
      rcases h2 with ⟨M2, N2⟩
      have s2 : Hp.sub ⟨M, N⟩ ⟨M2, N2⟩ := fun b x hb => by
        rw [o3, if_neg]
        · exact hb
        · intro e; rw [e, fM (N + 10) (by omega) ob o1] at hb; cases hb
      have hob : M2.get ob = some (.row (u32s out) false) := by have := o3 ob; rw [if_pos rfl] at this; exact this
      have f2' : ∀ k, N2 ≤ k → (⟨M2, k⟩ : Hp).fr := fun k hk b hb => f2 b (by simp only at hb ⊢; omega)
      obtain ⟨m3, v3, h3, q3, M3, G3⟩ := ((of_dig_run B.of (f2' (N2 + 6) (by omega)) (DigAt.row (h := ⟨M2, N2 + 6⟩) (cap := out.length) (ex := true) hob (Nat.le_refl _)) o5 (by omega)).grow B.grow).lift
      have f3 := G3.fr (f2' (N2 + 6) (by omega))
      rcases h3 with ⟨M3', N3⟩
      have s3 : Hp.sub ⟨M2, N2⟩ ⟨M3', N3⟩ := M3.hsub
      obtain ⟨ds3, bs3, NA3, ok3, val3, _, _⟩ := M3
      obtain ⟨b3, o3', cells3, ro3, sl3, bs3', rfl, rfl, hrow3, hcell3, hdig3⟩ := NA3
      have hg3 : ∀ nx, getCells ⟨M3', nx⟩ b3 (o3' + 0) 1 = some [sl3] := fun nx => cellAt_get (h := ⟨M3', nx⟩) (by unfold cellAt; rw [show (⟨M3', nx⟩ : Hp).m.get b3 = _ from hrow3]; exact hcell3)
      have q2' : callF Tryz.prog hk m2 124 [sl, .int .u64 1000000000] ⟨M, N + 10⟩ = some (.tup [.slice ob 0 ds.length ds.length true 1, .int .u64 ((digVal ds % 1000000000 : Nat) : Int)], ⟨M2, N2⟩) := q2 m2 (Nat.le_refl _)
      have q3' := q3 m3 (Nat.le_refl _)
      rw [o4] at q3'
      have h01 : 0 < 1 := Nat.one_pos
      (repeat refine Ex.assoc ?_); refine Ex.step (m := m2) (by simp (config := {decide := true}) only [RS, Nat.reduceAdd, g3, fn_short, q2']; rfl) ?_
      refine Ex.forget fun E hE => ?_; have k4 := hE 4; simp (config := {decide := true}) only [RS, Nat.reduceAdd, g3, g4, g13] at k4; have k5 := hE 5; simp (config := {decide := true}) only [RS, Nat.reduceAdd, g3, g4, g13] at k5; have k6 := hE 6; simp (config := {decide := true}) only [RS, Nat.reduceAdd, g3, g4, g13] at k6; clear hE g3 g4 g13; have g4 := k4; clear k4; have g5 := k5; clear k5; have g6 := k6; clear k6
      (repeat refine Ex.assoc ?_); refine Ex.step (m := m3) (by simp (config := {decide := true}) only [RS, Nat.reduceAdd, g5, fn_of, q3', fNat0, sSl, aSl, hSl, hg3, h01, if_pos]; rfl) ?_
      refine Ex.forget fun E hE => ?_; have k3 := hE 3; simp (config := {decide := true}) only [RS, Nat.reduceAdd, g4, g5, g6] at k3; have k4 := hE 4; simp (config := {decide := true}) only [RS, Nat.reduceAdd, g4, g5, g6] at k4; have k6 := hE 6; simp (config := {decide := true}) only [RS, Nat.reduceAdd, g4, g5, g6] at k6; clear hE g4 g5 g6; have g3 := k3; clear k3; have g4 := k4; clear k4; have g6 := k6; clear k6
      rw [vd] at o6 g6
      rw [o6] at val3
      obtain ⟨r, hr⟩ : ∃ r, r = V % 1000000000 := ⟨_, rfl⟩
      obtain ⟨q, hq⟩ : ∃ q, q = V / 1000000000 := ⟨_, rfl⟩
      rw [← hr] at g6
      rw [← hq] at val3
      have hVqr : V = q * 1000000000 + r := by omega
      have hrl : r < 1000000000 := by omega
      have sh3 : h.sub ⟨M3', N3⟩ := i1.trans (Hp.sub.trans s2 s3)
      have cf : ∀ m nx, callF Tryz.prog hk m 125 [.int .u64 r, .int .i64 10] ⟨M3', nx⟩ = some (.str (dec r), ⟨M3', nx⟩) := fun m nx => callF_hk (S.fmt _ _ hrl (hasPow_sub (h := h) (h' := ⟨M3', nx⟩) sh3 hp))
      obtain ⟨hdl9, hpad9⟩ := dec_len (r := r) (k := 9) (by rw [show (10 : Nat) ^ 9 = 1000000000 by decide]; exact hrl) (by omega)
      (repeat refine Ex.assoc ?_); refine Ex.step (m := 0) (by simp (config := {decide := true}) only [RS, Nat.reduceAdd, g6, fn_fmt, cf]; rfl) ?_
      refine Ex.forget fun E hE => ?_; have k3 := hE 3; simp (config := {decide := true}) only [RS, Nat.reduceAdd, g3, g4, g6] at k3; have k4 := hE 4; simp (config := {decide := true}) only [RS, Nat.reduceAdd, g3, g4, g6] at k4; have k7 := hE 7; simp (config := {decide := true}) only [RS, Nat.reduceAdd, g3, g4, g6] at k7; clear hE g3 g4 g6; have g3 := k3; clear k3; have g4 := k4; clear k4; have g7 := k7; clear k7
      (repeat refine Ex.assoc ?_); refine Ex.step (m := 0) (by simp (config := {decide := true}) only [RS, Nat.reduceAdd, g3, hdig3.len]; rfl) ?_
      refine Ex.forget fun E hE => ?_; have k3 := hE 3; simp (config := {decide := true}) only [RS, Nat.reduceAdd, g3, g4, g7] at k3; have k4 := hE 4; simp (config := {decide := true}) only [RS, Nat.reduceAdd, g3, g4, g7] at k4; have k7 := hE 7; simp (config := {decide := true}) only [RS, Nat.reduceAdd, g3, g4, g7] at k7; have k28 := hE 28; simp (config := {decide := true}) only [RS, Nat.reduceAdd, g3, g4, g7] at k28; clear hE g3 g4 g7; have g3 := k3; clear k3; have g4 := k4; clear k4; have g7 := k7; clear k7; have g28 := k28; clear k28
      (repeat refine Ex.assoc ?_)
      refine Ex.cut (fun env h' => ∃ p, (0 < q ∧ p = pad 9 r ∨ q = 0 ∧ p = dec r) ∧ p.length ≤ 9 ∧ env.get 3 = some sl3 ∧ env.get 4 = some (.str s) ∧ env.get 7 = some (.str p) ∧ h'.m = M3' ∧ N3 ≤ h'.nx) ?_ ?_
      · by_cases hq0 : q = 0
        · have : ds3 = [] := digVal_zero ok3 (by rw [val3]; exact hq0)
          have hc3 : ¬ ((ds3.length : Nat) : Int) > 0 := by rw [this]; simp
          refine Ex.cond_false (by simp (config := {decide := true}) only [RS, Nat.reduceAdd, g28, hc3]) (Ex.skip ?_)
          simp (config := {decide := true}) only [thenK, blockK, ite_true, ite_false, if_true, if_false]
          exact ⟨dec r, .inr ⟨hq0, rfl⟩, hdl9, g3, g4, g7, by trivial, (by first | omega | (simp only [Nat.add_assoc]; omega) | (dsimp only; omega))⟩
        · have h3 : ds3 ≠ [] := fun e => by subst e; simp [digVal] at val3; omega
          have h3' : ds3.length ≠ 0 := fun e => h3 (List.eq_nil_of_length_eq_zero e)
          have hc3 : ((ds3.length : Nat) : Int) > 0 := by omega
          refine Ex.cond_true (by simp (config := {decide := true}) only [RS, Nat.reduceAdd, g28, hc3]) ?_
          have hdp : 0 < (dec r).length := by
            obtain ⟨j, k1, k2, k3⟩ := exists_digits r
            rw [dec_pad k1 k2 k3, pad_length]; exact k1
          have w1 : IntKind.i64.wrap (9 - (((dec r).length : Nat) : Int)) = ((9 - (dec r).length : Nat) : Int) := by rw [wrap_i64] <;> omega
          have cr : ∀ m nx, callF Tryz.prog hk m 126 [.str [48], .int .i64 (9 - (dec r).length : Nat)] ⟨M3', nx⟩ = some (.str (List.replicate (9 - (dec r).length) 48), ⟨M3', nx⟩) := fun m nx => callF_hk (S.rep _ _ (by omega))
          have hcat : (List.replicate (9 - (dec r).length) 48).length + (dec r).length ≤ strMost := by
            have : strMost = 4611686018427387904 := rfl
            rw [List.length_replicate, this]; omega
          have fn_rep : ∃ e, fnE Tryz.prog 126 = some e := ⟨⟨(Go.Proofs.Tryz.f126.body).getD .skip, 125, [.tmp 4]⟩, by kernel_rfl⟩
          obtain ⟨erep, fn_rep⟩ := fn_rep
          refine Ex.last (m := 0) (by simp (config := {decide := true}) only [RS, Nat.reduceAdd, g7, tStr, aLen, w1, bytes_0, fn_rep, cr, aStr, hcat]; rfl) ?_
          simp (config := {decide := true}) only [thenK, blockK, ite_true, ite_false, if_true, if_false]
          exact ⟨pad 9 r, .inl ⟨by omega, rfl⟩, by rw [pad_length]; exact Nat.le_refl _, by simp (config := {decide := true}) only [RS, Nat.reduceAdd, g3], by simp (config := {decide := true}) only [RS, Nat.reduceAdd, g4], by simp (config := {decide := true}) only [RS, Nat.reduceAdd, hpad9], by trivial, (by first | omega | (simp only [Nat.add_assoc]; omega) | (dsimp only; omega))⟩
      · clear g3 g4 g7 g28
        rintro env h' ⟨p, hp1, hp2, g3, g4, g7, e1, e2⟩
        rcases h' with ⟨M4, N4⟩
        dsimp only at e1 e2
        subst e1
        have hcat : p.length + s.length ≤ strMost := by
          have : strMost = 4611686018427387904 := rfl
          rw [hsp, pad_length, this]; omega
        refine Ex.last (m := 0) (by simp (config := {decide := true}) only [RS, Nat.reduceAdd, g4, g7, aStr, hcat]; rfl) ?_
        simp (config := {decide := true}) only [thenK, blockK, ite_true, ite_false, if_true, if_false]
        have hp9 : (10 : Nat) ^ (9 * (i + 1)) = 1000000000 * 10 ^ (9 * i) := by
          rw [Nat.mul_succ, Nat.pow_add, Nat.mul_comm, show (10 : Nat) ^ 9 = 1000000000 by decide]
        refine ⟨q, by omega, ds3, bs3', p ++ s, sl3, i + 1, r * 10 ^ (9 * i) + L, val3, ok3, hdig3, ?_, ?_, fun hq0 => ?_, fun hq0 => ?_, sh3, fun b hb => f3 b (by simp only at hb ⊢; omega), by simp (config := {decide := true}) only [RS, Nat.reduceAdd, g3], by simp (config := {decide := true}) only [RS, Nat.reduceAdd]⟩
        · rw [eA, hVqr, hp9, Nat.add_mul]
          rw [Nat.mul_assoc]; omega
        · rw [hp9]
          have : r * 10 ^ (9 * i) + 10 ^ (9 * i) ≤ 1000000000 * 10 ^ (9 * i) := by
            rw [← Nat.succ_mul]; exact Nat.mul_le_mul_right _ hrl
          omega
        · rcases hp1 with ⟨_, rfl⟩ | ⟨h0, _⟩
          · rw [hsp, pad_cat hL]
            congr 1; omega
          · omega
        · rcases hp1 with ⟨h0, _⟩ | ⟨_, rfl⟩
          · omega
          · right
            have hr0 : 0 < r := by omega
            refine ⟨by omega, ?_⟩
            have : A = r * 10 ^ (9 * i) + L := by rw [eA, hVqr, hq0]; simp
            rw [hsp, this, dec_app hr0 hL]
    · exact ⟨da, bs1, [], v1, 0, 0, rfl, sa, a2, by simp [hA], by simp, fun _ => by simp [pad], fun h0 => .inl ⟨by omega, rfl⟩, a3, fun b hb => f1 b (by simp only at hb ⊢; omega), g3, g4⟩
  clear g3 g4
  rintro env h' ⟨s, hs, sh, g4⟩
  (repeat refine Ex.assoc ?_); refine Ex.step (m := 0) (by simp (config := {decide := true}) only [RS, Nat.reduceAdd, g4, bytes_nil, aStr]; rfl) ?_
  refine Ex.forget fun E hE => ?_; have k4 := hE 4; simp (config := {decide := true}) only [RS, Nat.reduceAdd, g4] at k4; have k39 := hE 39; simp (config := {decide := true}) only [RS, Nat.reduceAdd, g4] at k39; clear hE g4; have g4 := k4; clear k4; have g39 := k39; clear k39
  rw [← hA]
  rcases hs with ⟨hA0, rfl⟩ | ⟨hA0, rfl⟩
  · refine Ex.ifT (by simp (config := {decide := true}) only [RS, Nat.reduceAdd, g39] <;> rfl) ?_
    (repeat refine Ex.assoc ?_); refine Ex.step (m := 0) (by simp (config := {decide := true}) only [RS, Nat.reduceAdd, bytes_0]; rfl) ?_
    refine Ex.retS ⟨trivial, _, by simp (config := {decide := true}) only [RS, Nat.reduceAdd]; rfl, ?_, sh⟩
    simp (config := {decide := true}) only [RS, Nat.reduceAdd, hA0]
    rfl
  · have hne : (dec A == []) = false := by
      obtain ⟨j, k1, k2, k3⟩ := exists_digits A
      have hl : (dec A).length = j := by rw [dec_pad k1 k2 k3, pad_length]
      cases hd : dec A with
      | nil => rw [hd] at hl; simp at hl; omega
      | cons a l => rfl
    refine Ex.ifF (by simp (config := {decide := true}) only [RS, Nat.reduceAdd, g39, hne]) (Ex.skipS ?_)
    (repeat refine Ex.assoc ?_); refine Ex.step (m := 0) (by simp (config := {decide := true}) only [RS, Nat.reduceAdd, g4]; rfl) ?_
    refine Ex.ret ⟨trivial, _, by simp (config := {decide := true}) only [RS, Nat.reduceAdd]; rfl, ?_, sh⟩
    simp (config := {decide := true}) only [RS, Nat.reduceAdd]
end Go.Vk
